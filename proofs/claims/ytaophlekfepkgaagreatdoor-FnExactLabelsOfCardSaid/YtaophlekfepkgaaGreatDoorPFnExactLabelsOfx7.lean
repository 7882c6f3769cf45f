/- Printed by a program out of the translation, with contracts of my own set in. -/
import Derived.Test.YtaophlekfepkgaaGreatDoorPFnExactLabelsOfx0
import Derived.Test.YtaophlekfepkgaaGreatDoorPFnExactLabelsOfx4
import Derived.Test.YtaophlekfepkgaaGreatDoorPFnExactLabelsOfx5
import Derived.Test.YtaophlekfepkgaaGreatDoorPFnExactLabelsOfx6
namespace Go.Proofs.YtaophlekfepkgaaGreatDoor.PFnExactLabelsOf
open Go.RowKit Go.Proofs.YtaophlekfepkgaaGreatDoorW.PrintWords Go.Proofs.YtaophlekfepkgaaGreatDoorW.PrintLast Go.Proofs.YtaophlekfepkgaaGreatDoorW.PrintMore
attribute [local go_sem] max2_int min2_int max_two min_two max_three min_three max_four min_four   -- for this text's walks alone
set_option linter.unusedVariables false
set_option linter.unusedSimpArgs false

/-! ### spec_ReadLine: function 41 -/
mutual
def spec_ReadLine.j0 : Nat → List ByteArray → Bool → Int → Int → Int → Int → Int → Int → Int → ByteArray → Option (Int × Int × Int × Int × Int × Int × Int × ByteArray)
 | 0, _, _, _, _, _, _, _, _, _, _ => none
 | k + 1, x4, x44, x169000, x169001, x169002, x169003, x169004, x169005, x169006, x169007 => if x44 = true then (if 0 < (x4.length : Int) then (if 0 ≤ (wrap64 (((rdOf ByteArray.empty x4 0).size : Int) - 1)) then (if (wrap64 (((rdOf ByteArray.empty x4 0).size : Int) - 1)) ≤ ((rdOf ByteArray.empty x4 0).size : Int) then ((spec_LabelOk.f k ((rdOf ByteArray.empty x4 0).extract 0 ((wrap64 (((rdOf ByteArray.empty x4 0).size : Int) - 1)) : Int).toNat)).bind fun t177 => (if t177 = true then (some (1, 0, 0, 0, 0, 0, 0, (rdOf ByteArray.empty x4 0).extract 0 ((wrap64 (((rdOf ByteArray.empty x4 0).size : Int) - 1)) : Int).toNat)) else (some (x169000, x169001, x169002, x169003, x169004, x169005, x169006, x169007)))) else (none)) else (none)) else (none)) else (if 0 < (x4.length : Int) then (if (rdOf ByteArray.empty x4 0).toList = ([46, 119, 111, 114, 100] : List UInt8) then (if (x4.length : Int) = 2 then (if 1 < (x4.length : Int) then ((spec_DecNum.f k (rdOf ByteArray.empty x4 1) 4294967295).bind fun bt180 => (if bt180.2 = true then (if bt180.1 < 0 then (some (x169000, x169001, x169002, x169003, x169004, x169005, x169006, x169007)) else (some (2, 0, 0, 0, 0, 0, (bt180.1) % 4294967296, (⟨#[]⟩ : ByteArray)))) else (some (x169000, x169001, x169002, x169003, x169004, x169005, x169006, x169007)))) else (none)) else (some (x169000, x169001, x169002, x169003, x169004, x169005, x169006, x169007))) else ((spec_OpOf.f k (rdOf ByteArray.empty x4 0)).bind fun t183 => (if t183 < 0 then (some (x169000, x169001, x169002, x169003, x169004, x169005, x169006, x169007)) else ((spec_FormOf.f t183).bind fun t184 => (spec_ReadLine.l0 k x4 t183 t184 1 1 x169000 x169001 x169002 x169003 x169004 x169005 x169006 x169007 3 t183 0 0 0 0 0 (⟨#[]⟩ : ByteArray)))))) else (none))
def spec_ReadLine.l0 : Nat → List ByteArray → Int → Int → Int → Int → Int → Int → Int → Int → Int → Int → Int → ByteArray → Int → Int → Int → Int → Int → Int → Int → ByteArray → Option (Int × Int × Int × Int × Int × Int × Int × ByteArray)
 | 0, _, _, _, _, _, _, _, _, _, _, _, _, _, _, _, _, _, _, _, _, _ => none
 | k + 1, x4, x8, x9, x11, x12, x169000, x169001, x169002, x169003, x169004, x169005, x169006, x169007, x186000, x186001, x186002, x186003, x186004, x186005, x186006, x186007 => if x12 ≤ 4 then (if x12 = 0 then (none) else (if (Int.tmod (wrap64 (Int.tdiv x9 x12)) 2) = 1 then (if x11 ≥ (x4.length : Int) then (spec_ReadLine.j2 k x4 x8 x9 x11 x12 true x169000 x169001 x169002 x169003 x169004 x169005 x169006 x169007 x186000 x186001 x186002 x186003 x186004 x186005 x186006 x186007) else (if 0 ≤ x11 then (if x11 < (x4.length : Int) then ((spec_l03Reg.f k (rdOf ByteArray.empty x4 x11)).bind fun t187 => (spec_ReadLine.j2 k x4 x8 x9 x11 x12 (decide (t187 < 0)) x169000 x169001 x169002 x169003 x169004 x169005 x169006 x169007 x186000 x186001 x186002 x186003 x186004 x186005 x186006 x186007)) else (none)) else (none))) else (spec_ReadLine.l0 k x4 x8 x9 x11 (wrap64 (2 * x12)) x169000 x169001 x169002 x169003 x169004 x169005 x169006 x169007 x186000 x186001 x186002 x186003 x186004 x186005 x186006 x186007))) else (if (Int.tmod (wrap64 (Int.tdiv x9 8)) 2) = 1 then (if x11 ≥ (x4.length : Int) then (some (x169000, x169001, x169002, x169003, x169004, x169005, x169006, x169007)) else (if 0 ≤ x11 then (if x11 < (x4.length : Int) then ((spec_DecNum.f k (rdOf ByteArray.empty x4 x11) 8192).bind fun bt191 => (if bt191.2 = true then (spec_ReadLine.j3 k x4 x8 x11 bt191.1 (decide (bt191.1 ≤ 8191)) x169000 x169001 x169002 x169003 x169004 x169005 x169006 x169007 x186000 x186001 x186002 x186003 x186004 x186005 x186006 x186007) else (spec_ReadLine.j3 k x4 x8 x11 bt191.1 false x169000 x169001 x169002 x169003 x169004 x169005 x169006 x169007 x186000 x186001 x186002 x186003 x186004 x186005 x186006 x186007))) else (none)) else (none))) else (if x11 = (x4.length : Int) then (some (x186000, x186001, x186002, x186003, x186004, x186005, x186006, x186007)) else (some (x169000, x169001, x169002, x169003, x169004, x169005, x169006, x169007))))
def spec_ReadLine.j2 : Nat → List ByteArray → Int → Int → Int → Int → Bool → Int → Int → Int → Int → Int → Int → Int → ByteArray → Int → Int → Int → Int → Int → Int → Int → ByteArray → Option (Int × Int × Int × Int × Int × Int × Int × ByteArray)
 | 0, _, _, _, _, _, _, _, _, _, _, _, _, _, _, _, _, _, _, _, _, _, _ => none
 | k + 1, x4, x8, x9, x11, x12, x118, x169000, x169001, x169002, x169003, x169004, x169005, x169006, x169007, x186000, x186001, x186002, x186003, x186004, x186005, x186006, x186007 => if x118 = true then (some (x169000, x169001, x169002, x169003, x169004, x169005, x169006, x169007)) else (if 0 ≤ x11 then (if x11 < (x4.length : Int) then ((spec_l03Reg.f k (rdOf ByteArray.empty x4 x11)).bind fun t189 => (if x12 = 1 then (spec_ReadLine.l0 k x4 x8 x9 (wrap64 (x11 + 1)) (wrap64 (2 * x12)) x169000 x169001 x169002 x169003 x169004 x169005 x169006 x169007 x186000 x186001 t189 x186003 x186004 x186005 x186006 x186007) else (if x12 = 2 then (spec_ReadLine.l0 k x4 x8 x9 (wrap64 (x11 + 1)) (wrap64 (2 * x12)) x169000 x169001 x169002 x169003 x169004 x169005 x169006 x169007 x186000 x186001 x186002 t189 x186004 x186005 x186006 x186007) else (spec_ReadLine.l0 k x4 x8 x9 (wrap64 (x11 + 1)) (wrap64 (2 * x12)) x169000 x169001 x169002 x169003 x169004 x169005 x169006 x169007 x186000 x186001 x186002 x186003 t189 x186005 x186006 x186007)))) else (none)) else (none))
def spec_ReadLine.j3 : Nat → List ByteArray → Int → Int → Int → Bool → Int → Int → Int → Int → Int → Int → Int → ByteArray → Int → Int → Int → Int → Int → Int → Int → ByteArray → Option (Int × Int × Int × Int × Int × Int × Int × ByteArray)
 | 0, _, _, _, _, _, _, _, _, _, _, _, _, _, _, _, _, _, _, _, _, _ => none
 | k + 1, x4, x8, x11, x14, x162, x169000, x169001, x169002, x169003, x169004, x169005, x169006, x169007, x186000, x186001, x186002, x186003, x186004, x186005, x186006, x186007 => if x162 = true then (if (wrap64 (x11 + 1)) = (x4.length : Int) then (some (x186000, x186001, x186002, x186003, x186004, x14, x186006, x186007)) else (some (x169000, x169001, x169002, x169003, x169004, x169005, x169006, x169007))) else ((spec_l01In.f x8 19 22).bind fun t193 => (if t193 = true then (if 0 ≤ x11 then (if x11 < (x4.length : Int) then ((spec_LabelOk.f k (rdOf ByteArray.empty x4 x11)).bind fun t195 => (spec_ReadLine.j4 k x4 x11 t195 x169000 x169001 x169002 x169003 x169004 x169005 x169006 x169007 x186000 x186001 x186002 x186003 x186004 x186005 x186006 x186007)) else (none)) else (none)) else (spec_ReadLine.j4 k x4 x11 false x169000 x169001 x169002 x169003 x169004 x169005 x169006 x169007 x186000 x186001 x186002 x186003 x186004 x186005 x186006 x186007)))
def spec_ReadLine.j4 : Nat → List ByteArray → Int → Bool → Int → Int → Int → Int → Int → Int → Int → ByteArray → Int → Int → Int → Int → Int → Int → Int → ByteArray → Option (Int × Int × Int × Int × Int × Int × Int × ByteArray)
 | 0, _, _, _, _, _, _, _, _, _, _, _, _, _, _, _, _, _, _, _ => none
 | k + 1, x4, x11, x174, x169000, x169001, x169002, x169003, x169004, x169005, x169006, x169007, x186000, x186001, x186002, x186003, x186004, x186005, x186006, x186007 => if x174 = true then (if 0 ≤ x11 then (if x11 < (x4.length : Int) then (if (wrap64 (x11 + 1)) = (x4.length : Int) then (some (4, x186001, x186002, x186003, x186004, x186005, x186006, rdOf ByteArray.empty x4 x11)) else (some (x169000, x169001, x169002, x169003, x169004, x169005, x169006, x169007))) else (none)) else (none)) else (some (x169000, x169001, x169002, x169003, x169004, x169005, x169006, x169007))
end
def spec_ReadLine.f (k : Nat) (a0 : ByteArray) : Option (Int × Int × Int × Int × Int × Int × Int × ByteArray) := if (a0.size : Int) > 80 then (some (0, 0, 0, 0, 0, 0, 0, (⟨#[]⟩ : ByteArray))) else ((spec_l01Split.f k a0).bind fun t169 => (if (t169.length : Int) = 1 then (if 0 < (t169.length : Int) then (if ((rdOf ByteArray.empty t169 0).size : Int) > 1 then (if 0 ≤ (wrap64 (((rdOf ByteArray.empty t169 0).size : Int) - 1)) then (if (wrap64 (((rdOf ByteArray.empty t169 0).size : Int) - 1)) < ((rdOf ByteArray.empty t169 0).size : Int) then (spec_ReadLine.j0 k t169 ((bt (rdOf ByteArray.empty t169 0) (wrap64 (((rdOf ByteArray.empty t169 0).size : Int) - 1))) == 58) 0 0 0 0 0 0 0 (⟨#[]⟩ : ByteArray)) else (none)) else (none)) else (spec_ReadLine.j0 k t169 false 0 0 0 0 0 0 0 (⟨#[]⟩ : ByteArray))) else (none)) else (spec_ReadLine.j0 k t169 false 0 0 0 0 0 0 0 (⟨#[]⟩ : ByteArray))))
set_option maxHeartbeats 8000000 in
set_option maxRecDepth 100000 in
theorem spec_ReadLine.calls (k : Nat) (a0 : ByteArray) (r1 : Int) (r2 : Int) (r3 : Int) (r4 : Int) (r5 : Int) (r6 : Int) (r7 : Int) (r8 : ByteArray) (w : World) (h : spec_ReadLine.f k a0 = some (r1, r2, r3, r4, r5, r6, r7, r8)) :
 Calls Tryz.prog 41 #[.string a0] w fun e w' => e = .returned (.agg #[.int .i64 r1, .int .i64 r2, .int .i64 r3, .int .i64 r4, .int .i64 r5, .int .i64 r6, .int .u32 r7, .string r8]) ∧ Below w.heap.size w w' := by
 have hu64 := Tryz.underlying64
 have HB := Aside0.mk (Below.refl w.heap.size w)
 have H : (if (a0.size : Int) > 80 then (some (0, 0, 0, 0, 0, 0, 0, (⟨#[]⟩ : ByteArray))) else ((spec_l01Split.f k a0).bind fun t169 => (if (t169.length : Int) = 1 then (if 0 < (t169.length : Int) then (if ((rdOf ByteArray.empty t169 0).size : Int) > 1 then (if 0 ≤ (wrap64 (((rdOf ByteArray.empty t169 0).size : Int) - 1)) then (if (wrap64 (((rdOf ByteArray.empty t169 0).size : Int) - 1)) < ((rdOf ByteArray.empty t169 0).size : Int) then (spec_ReadLine.j0 k t169 ((bt (rdOf ByteArray.empty t169 0) (wrap64 (((rdOf ByteArray.empty t169 0).size : Int) - 1))) == 58) 0 0 0 0 0 0 0 (⟨#[]⟩ : ByteArray)) else (none)) else (none)) else (spec_ReadLine.j0 k t169 false 0 0 0 0 0 0 0 (⟨#[]⟩ : ByteArray))) else (none)) else (spec_ReadLine.j0 k t169 false 0 0 0 0 0 0 0 (⟨#[]⟩ : ByteArray))))) = some (r1, r2, r3, r4, r5, r6, r7, r8) := h
 clear h
 by_cases c2 : (a0.size : Int) > 80
 · rw [if_pos c2] at H
   have c2b0 : decide (80 < (a0.size : Int)) = true := decide_eq_true c2
   have c2b1 : decide (80 < a0.size) = true := decide_eq_true (by omega)
   clear c2
   simp only [Option.some.injEq, Prod.mk.injEq] at H
   obtain ⟨rfl, rfl, rfl, rfl, rfl, rfl, rfl, rfl⟩ := H
   go_enter Tryz.func41, Tryz.ntmps41
   go_wp2_with (first | ((with_reducible refine gate_dst (N := 2) rfl ?_); (try (refine gate_guard (by rfl) ?_; dsimp only)); refine box_event ?hg (N := 2) ?hd (cs := #[.int .i64 0, .int .i64 0, .int .i64 0, .int .i64 0, .int .i64 0, .int .i64 0, .int .u32 0, .string (⟨#[]⟩ : ByteArray)]) (t := 64) ?hr ?_; (case hd => rfl); (case hg => rfl); (case hr => first | (go_simp; done) | (go_simp; rfl)); intro gb167 hg w3 hbox hb; have n0_ := Aside0.mk (below_step (by repeat (first | (with_reducible first | exact HB.out | apply below_alloc | apply pw_below_drewN | apply below_drew1) | exact HB.out)) hb); have n1_ := Aside0.mk (hbox); have n2_ := Aside0.mk ((by rw [hg]; exact (below_size (by repeat (first | (with_reducible first | exact HB.out | apply below_alloc | apply pw_below_drewN | apply below_drew1) | exact HB.out))) : w.heap.size ≤ gb167)); have n3_ := Aside0.mk ((by rw [hg]; exact (below_size (by repeat (first | (with_reducible first | exact HB.out | apply below_alloc | apply pw_below_drewN | apply below_drew1) | exact HB.out))) : w.heap.size ≤ gb167)); clear HB; have HB := n0_; have BK167 := n1_; have GW167 := n2_; have GE167 := n3_; clear n0_ n1_ n2_ n3_; clear hb hbox hg) | ((with_reducible refine gate_dst (N := 3) rfl ?_); (try (refine gate_guard (by rfl) ?_; dsimp only)); refine box_event ?hg (N := 3) ?hd (cs := #[.int .i64 0, .int .i64 0, .int .i64 0, .int .i64 0, .int .i64 0, .int .i64 0, .int .u32 0, .string (⟨#[]⟩ : ByteArray)]) (t := 64) ?hr ?_; (case hd => rfl); (case hg => rfl); (case hr => first | (go_simp; done) | (go_simp; rfl)); intro gb168 hg w4 hbox hb; have n0_ := Aside0.mk (blk_below (g := gb167) (o := .cells #[.int .i64 0, .int .i64 0, .int .i64 0, .int .i64 0, .int .i64 0, .int .i64 0, .int .u32 0, .string (⟨#[]⟩ : ByteArray)] 64 (0, 0)) (by (with_reducible repeat (first | refine blk_drewN ?_ _ | refine blk_drew ?_ | refine blk_alloc ?_ _)); exact BK167.out) hb); have n1_ := Aside0.mk (below_step (by repeat (first | (with_reducible first | exact HB.out | apply below_alloc | apply pw_below_drewN | apply below_drew1 | refine below_set ?_ GE167.out) | exact HB.out)) hb); have n2_ := Aside0.mk (hbox); have n3_ := Aside0.mk ((by rw [hg]; exact (below_size (by repeat (first | (with_reducible first | exact HB.out | apply below_alloc | apply pw_below_drewN | apply below_drew1 | refine below_set ?_ GE167.out) | exact HB.out))) : w.heap.size ≤ gb168)); have n4_ := Aside0.mk ((by rw [hg]; exact (below_size (by repeat (first | (with_reducible first | exact HB.out | apply below_alloc | apply pw_below_drewN | apply below_drew1 | refine below_set ?_ GE167.out) | exact HB.out))) : w.heap.size ≤ gb168)); have n5_ := Aside0.mk ((by rw [hg]; exact Nat.ne_of_lt (blk_lt (g := gb167) (o := .cells #[.int .i64 0, .int .i64 0, .int .i64 0, .int .i64 0, .int .i64 0, .int .i64 0, .int .u32 0, .string (⟨#[]⟩ : ByteArray)] 64 (0, 0)) (by (with_reducible repeat (first | refine blk_drewN ?_ _ | refine blk_drew ?_ | refine blk_alloc ?_ _)); exact BK167.out)) : gb167 ≠ gb168)); have n6_ := Aside0.mk ((by rw [hg]; exact Nat.ne_of_gt (blk_lt (g := gb167) (o := .cells #[.int .i64 0, .int .i64 0, .int .i64 0, .int .i64 0, .int .i64 0, .int .i64 0, .int .u32 0, .string (⟨#[]⟩ : ByteArray)] 64 (0, 0)) (by (with_reducible repeat (first | refine blk_drewN ?_ _ | refine blk_drew ?_ | refine blk_alloc ?_ _)); exact BK167.out)) : gb168 ≠ gb167)); clear BK167; clear HB; have BK167 := n0_; have HB := n1_; have BK168 := n2_; have GW168 := n3_; have GE168 := n4_; have NB167_168 := n5_; have NB168_167 := n6_; clear n0_ n1_ n2_ n3_ n4_ n5_ n6_; clear hb hbox hg; have hnb5 := NB168_167.out; have hnc5 := NB167_168.out; have hcz6_0 : w4.cell? ⟨gb168, 0, none⟩ = some (.int .i64 0) := (blk_cell BK168.out 0).trans rfl; have hcz6_1 : w4.cell? ⟨gb168, 1, none⟩ = some (.int .i64 0) := (blk_cell BK168.out 1).trans rfl; have hcz6_2 : w4.cell? ⟨gb168, 2, none⟩ = some (.int .i64 0) := (blk_cell BK168.out 2).trans rfl; have hcz6_3 : w4.cell? ⟨gb168, 3, none⟩ = some (.int .i64 0) := (blk_cell BK168.out 3).trans rfl; have hcz6_4 : w4.cell? ⟨gb168, 4, none⟩ = some (.int .i64 0) := (blk_cell BK168.out 4).trans rfl; have hcz6_5 : w4.cell? ⟨gb168, 5, none⟩ = some (.int .i64 0) := (blk_cell BK168.out 5).trans rfl; have hcz6_6 : w4.cell? ⟨gb168, 6, none⟩ = some (.int .u32 0) := (blk_cell BK168.out 6).trans rfl; have hcz6_7 : w4.cell? ⟨gb168, 7, none⟩ = some (.string (⟨#[]⟩ : ByteArray)) := (blk_cell BK168.out 7).trans rfl; have hfz6_0 := blk_frozen BK168.out 0; have hfz6_1 := blk_frozen BK168.out 1; have hfz6_2 := blk_frozen BK168.out 2; have hfz6_3 := blk_frozen BK168.out 3; have hfz6_4 := blk_frozen BK168.out 4; have hfz6_5 := blk_frozen BK168.out 5; have hfz6_6 := blk_frozen BK168.out 6; have hfz6_7 := blk_frozen BK168.out 7; have hcz7_0 : w4.cell? ⟨gb167, 0, none⟩ = some (.int .i64 0) := (blk_cell BK167.out 0).trans rfl; have hcz7_1 : w4.cell? ⟨gb167, 1, none⟩ = some (.int .i64 0) := (blk_cell BK167.out 1).trans rfl; have hcz7_2 : w4.cell? ⟨gb167, 2, none⟩ = some (.int .i64 0) := (blk_cell BK167.out 2).trans rfl; have hcz7_3 : w4.cell? ⟨gb167, 3, none⟩ = some (.int .i64 0) := (blk_cell BK167.out 3).trans rfl; have hcz7_4 : w4.cell? ⟨gb167, 4, none⟩ = some (.int .i64 0) := (blk_cell BK167.out 4).trans rfl; have hcz7_5 : w4.cell? ⟨gb167, 5, none⟩ = some (.int .i64 0) := (blk_cell BK167.out 5).trans rfl; have hcz7_6 : w4.cell? ⟨gb167, 6, none⟩ = some (.int .u32 0) := (blk_cell BK167.out 6).trans rfl; have hcz7_7 : w4.cell? ⟨gb167, 7, none⟩ = some (.string (⟨#[]⟩ : ByteArray)) := (blk_cell BK167.out 7).trans rfl; have hfz7_0 := blk_frozen BK167.out 0; have hfz7_1 := blk_frozen BK167.out 1; have hfz7_2 := blk_frozen BK167.out 2; have hfz7_3 := blk_frozen BK167.out 3; have hfz7_4 := blk_frozen BK167.out 4; have hfz7_5 := blk_frozen BK167.out 5; have hfz7_6 := blk_frozen BK167.out 6; have hfz7_7 := blk_frozen BK167.out 7))
   refine bodyPost_ret (results_cell_row rfl _ _ gb167 64 #[.int .i64 0, .int .i64 0, .int .i64 0, .int .i64 0, .int .i64 0, .int .i64 0, .int .u32 0, .string (⟨#[]⟩ : ByteArray)] (0, 0) _ rfl (by (with_reducible repeat (first | refine blk_drewN ?_ _ | refine blk_drew ?_ | refine blk_alloc ?_ _)); refine blk_put (cs := #[.int .i64 0, .int .i64 0, .int .i64 0, .int .i64 0, .int .i64 0, .int .i64 0, .int .u32 0, .string (⟨#[]⟩ : ByteArray)]) ?_ 7 _ rfl; refine blk_put (cs := #[.int .i64 0, .int .i64 0, .int .i64 0, .int .i64 0, .int .i64 0, .int .i64 0, .int .u32 0, .string (⟨#[]⟩ : ByteArray)]) ?_ 6 _ rfl; refine blk_put (cs := #[.int .i64 0, .int .i64 0, .int .i64 0, .int .i64 0, .int .i64 0, .int .i64 0, .int .u32 0, .string (⟨#[]⟩ : ByteArray)]) ?_ 5 _ rfl; refine blk_put (cs := #[.int .i64 0, .int .i64 0, .int .i64 0, .int .i64 0, .int .i64 0, .int .i64 0, .int .u32 0, .string (⟨#[]⟩ : ByteArray)]) ?_ 4 _ rfl; refine blk_put (cs := #[.int .i64 0, .int .i64 0, .int .i64 0, .int .i64 0, .int .i64 0, .int .i64 0, .int .u32 0, .string (⟨#[]⟩ : ByteArray)]) ?_ 3 _ rfl; refine blk_put (cs := #[.int .i64 0, .int .i64 0, .int .i64 0, .int .i64 0, .int .i64 0, .int .i64 0, .int .u32 0, .string (⟨#[]⟩ : ByteArray)]) ?_ 2 _ rfl; refine blk_put (cs := #[.int .i64 0, .int .i64 0, .int .i64 0, .int .i64 0, .int .i64 0, .int .i64 0, .int .u32 0, .string (⟨#[]⟩ : ByteArray)]) ?_ 1 _ rfl; refine blk_put (cs := #[.int .i64 0, .int .i64 0, .int .i64 0, .int .i64 0, .int .i64 0, .int .i64 0, .int .u32 0, .string (⟨#[]⟩ : ByteArray)]) ?_ 0 _ rfl; (with_reducible repeat (first | refine blk_drewN ?_ _ | refine blk_drew ?_ | refine blk_alloc ?_ _)); refine blk_far ?_ NB167_168.out _; (with_reducible repeat (first | refine blk_drewN ?_ _ | refine blk_drew ?_ | refine blk_alloc ?_ _)); refine blk_far ?_ NB167_168.out _; (with_reducible repeat (first | refine blk_drewN ?_ _ | refine blk_drew ?_ | refine blk_alloc ?_ _)); refine blk_far ?_ NB167_168.out _; (with_reducible repeat (first | refine blk_drewN ?_ _ | refine blk_drew ?_ | refine blk_alloc ?_ _)); refine blk_far ?_ NB167_168.out _; (with_reducible repeat (first | refine blk_drewN ?_ _ | refine blk_drew ?_ | refine blk_alloc ?_ _)); refine blk_far ?_ NB167_168.out _; (with_reducible repeat (first | refine blk_drewN ?_ _ | refine blk_drew ?_ | refine blk_alloc ?_ _)); refine blk_far ?_ NB167_168.out _; (with_reducible repeat (first | refine blk_drewN ?_ _ | refine blk_drew ?_ | refine blk_alloc ?_ _)); refine blk_far ?_ NB167_168.out _; (with_reducible repeat (first | refine blk_drewN ?_ _ | refine blk_drew ?_ | refine blk_alloc ?_ _)); refine blk_far ?_ NB167_168.out _; (with_reducible repeat (first | refine blk_drewN ?_ _ | refine blk_drew ?_ | refine blk_alloc ?_ _)); exact BK167.out) Tryz.underlying64 rfl (by kernel_rfl)) rfl ?_
   exact ⟨by first | rfl | (simp [errW_none, errW_some] <;> rfl) | (simp [*, errW_none, errW_some] <;> rfl), by repeat (first | (with_reducible first | exact HB.out | apply below_alloc | apply pw_below_drewN | apply below_drew1 | refine below_set ?_ GE167.out | refine below_set ?_ GE168.out) | exact HB.out)⟩
 · rw [if_neg c2] at H
   have c2b0 : decide (80 < (a0.size : Int)) = false := decide_eq_false c2
   have c2b1 : decide (80 < a0.size) = false := decide_eq_false (by omega)
   clear c2
   replace H := Option.bind_eq_some_iff.mp H
   obtain ⟨t169, A80, H⟩ := H
   replace H : (if (t169.length : Int) = 1 then (if 0 < (t169.length : Int) then (if ((rdOf ByteArray.empty t169 0).size : Int) > 1 then (if 0 ≤ (wrap64 (((rdOf ByteArray.empty t169 0).size : Int) - 1)) then (if (wrap64 (((rdOf ByteArray.empty t169 0).size : Int) - 1)) < ((rdOf ByteArray.empty t169 0).size : Int) then (spec_ReadLine.j0 k t169 ((bt (rdOf ByteArray.empty t169 0) (wrap64 (((rdOf ByteArray.empty t169 0).size : Int) - 1))) == 58) 0 0 0 0 0 0 0 (⟨#[]⟩ : ByteArray)) else (none)) else (none)) else (spec_ReadLine.j0 k t169 false 0 0 0 0 0 0 0 (⟨#[]⟩ : ByteArray))) else (none)) else (spec_ReadLine.j0 k t169 false 0 0 0 0 0 0 0 (⟨#[]⟩ : ByteArray))) = some (r1, r2, r3, r4, r5, r6, r7, r8) := H
   have A8 := Aside0.mk A80
   clear A80
   have HC9 := Aside0.mk H
   clear H
   go_enter Tryz.func41, Tryz.ntmps41
   go_upto_region 5 with (first | ((with_reducible refine gate_dst (N := 2) rfl ?_); (try (refine gate_guard (by rfl) ?_; dsimp only)); refine box_event ?hg (N := 2) ?hd (cs := #[.int .i64 0, .int .i64 0, .int .i64 0, .int .i64 0, .int .i64 0, .int .i64 0, .int .u32 0, .string (⟨#[]⟩ : ByteArray)]) (t := 64) ?hr ?_; (case hd => rfl); (case hg => rfl); (case hr => first | (go_simp; done) | (go_simp; rfl)); intro gb167 hg w10 hbox hb; have n0_ := Aside0.mk (below_step (by repeat (first | (with_reducible first | exact HB.out | apply below_alloc | apply pw_below_drewN | apply below_drew1) | exact HB.out)) hb); have n1_ := Aside0.mk (hbox); have n2_ := Aside0.mk ((by rw [hg]; exact (below_size (by repeat (first | (with_reducible first | exact HB.out | apply below_alloc | apply pw_below_drewN | apply below_drew1) | exact HB.out))) : w.heap.size ≤ gb167)); have n3_ := Aside0.mk ((by rw [hg]; exact (below_size (by repeat (first | (with_reducible first | exact HB.out | apply below_alloc | apply pw_below_drewN | apply below_drew1) | exact HB.out))) : w.heap.size ≤ gb167)); clear HB; have HB := n0_; have BK167 := n1_; have GW167 := n2_; have GE167 := n3_; clear n0_ n1_ n2_ n3_; clear hb hbox hg) | ((with_reducible refine gate_dst (N := 3) rfl ?_); (try (refine gate_guard (by rfl) ?_; dsimp only)); refine box_event ?hg (N := 3) ?hd (cs := #[.int .i64 0, .int .i64 0, .int .i64 0, .int .i64 0, .int .i64 0, .int .i64 0, .int .u32 0, .string (⟨#[]⟩ : ByteArray)]) (t := 64) ?hr ?_; (case hd => rfl); (case hg => rfl); (case hr => first | (go_simp; done) | (go_simp; rfl)); intro gb168 hg w11 hbox hb; have n0_ := Aside0.mk (blk_below (g := gb167) (o := .cells #[.int .i64 0, .int .i64 0, .int .i64 0, .int .i64 0, .int .i64 0, .int .i64 0, .int .u32 0, .string (⟨#[]⟩ : ByteArray)] 64 (0, 0)) (by (with_reducible repeat (first | refine blk_drewN ?_ _ | refine blk_drew ?_ | refine blk_alloc ?_ _)); exact BK167.out) hb); have n1_ := Aside0.mk (below_step (by repeat (first | (with_reducible first | exact HB.out | apply below_alloc | apply pw_below_drewN | apply below_drew1 | refine below_set ?_ GE167.out) | exact HB.out)) hb); have n2_ := Aside0.mk (hbox); have n3_ := Aside0.mk ((by rw [hg]; exact (below_size (by repeat (first | (with_reducible first | exact HB.out | apply below_alloc | apply pw_below_drewN | apply below_drew1 | refine below_set ?_ GE167.out) | exact HB.out))) : w.heap.size ≤ gb168)); have n4_ := Aside0.mk ((by rw [hg]; exact (below_size (by repeat (first | (with_reducible first | exact HB.out | apply below_alloc | apply pw_below_drewN | apply below_drew1 | refine below_set ?_ GE167.out) | exact HB.out))) : w.heap.size ≤ gb168)); have n5_ := Aside0.mk ((by rw [hg]; exact Nat.ne_of_lt (blk_lt (g := gb167) (o := .cells #[.int .i64 0, .int .i64 0, .int .i64 0, .int .i64 0, .int .i64 0, .int .i64 0, .int .u32 0, .string (⟨#[]⟩ : ByteArray)] 64 (0, 0)) (by (with_reducible repeat (first | refine blk_drewN ?_ _ | refine blk_drew ?_ | refine blk_alloc ?_ _)); exact BK167.out)) : gb167 ≠ gb168)); have n6_ := Aside0.mk ((by rw [hg]; exact Nat.ne_of_gt (blk_lt (g := gb167) (o := .cells #[.int .i64 0, .int .i64 0, .int .i64 0, .int .i64 0, .int .i64 0, .int .i64 0, .int .u32 0, .string (⟨#[]⟩ : ByteArray)] 64 (0, 0)) (by (with_reducible repeat (first | refine blk_drewN ?_ _ | refine blk_drew ?_ | refine blk_alloc ?_ _)); exact BK167.out)) : gb168 ≠ gb167)); clear BK167; clear HB; have BK167 := n0_; have HB := n1_; have BK168 := n2_; have GW168 := n3_; have GE168 := n4_; have NB167_168 := n5_; have NB168_167 := n6_; clear n0_ n1_ n2_ n3_ n4_ n5_ n6_; clear hb hbox hg; have hnb12 := NB168_167.out; have hnc12 := NB167_168.out; have hcz13_0 : w11.cell? ⟨gb168, 0, none⟩ = some (.int .i64 0) := (blk_cell BK168.out 0).trans rfl; have hcz13_1 : w11.cell? ⟨gb168, 1, none⟩ = some (.int .i64 0) := (blk_cell BK168.out 1).trans rfl; have hcz13_2 : w11.cell? ⟨gb168, 2, none⟩ = some (.int .i64 0) := (blk_cell BK168.out 2).trans rfl; have hcz13_3 : w11.cell? ⟨gb168, 3, none⟩ = some (.int .i64 0) := (blk_cell BK168.out 3).trans rfl; have hcz13_4 : w11.cell? ⟨gb168, 4, none⟩ = some (.int .i64 0) := (blk_cell BK168.out 4).trans rfl; have hcz13_5 : w11.cell? ⟨gb168, 5, none⟩ = some (.int .i64 0) := (blk_cell BK168.out 5).trans rfl; have hcz13_6 : w11.cell? ⟨gb168, 6, none⟩ = some (.int .u32 0) := (blk_cell BK168.out 6).trans rfl; have hcz13_7 : w11.cell? ⟨gb168, 7, none⟩ = some (.string (⟨#[]⟩ : ByteArray)) := (blk_cell BK168.out 7).trans rfl; have hfz13_0 := blk_frozen BK168.out 0; have hfz13_1 := blk_frozen BK168.out 1; have hfz13_2 := blk_frozen BK168.out 2; have hfz13_3 := blk_frozen BK168.out 3; have hfz13_4 := blk_frozen BK168.out 4; have hfz13_5 := blk_frozen BK168.out 5; have hfz13_6 := blk_frozen BK168.out 6; have hfz13_7 := blk_frozen BK168.out 7) | (go_at_call 69; (with_reducible refine (spec_l01Split.calls k a0 t169 _ A8.out).mono ?_); rintro e w14 ⟨v170, rfl, ho0, hb⟩; have n0_ := Aside0.mk (Kd.R_lower ho0 (below_size (by repeat (first | (with_reducible first | exact HB.out | apply below_alloc | apply pw_below_drewN | apply below_drew1 | refine below_set ?_ GE167.out | refine below_set ?_ GE168.out) | exact HB.out)))); have n1_ := Aside0.mk (blk_below (g := gb167) (o := .cells #[.int .i64 0, .int .i64 0, .int .i64 0, .int .i64 0, .int .i64 0, .int .i64 0, .int .u32 0, .string (⟨#[]⟩ : ByteArray)] 64 (0, 0)) (by (with_reducible repeat (first | refine blk_drewN ?_ _ | refine blk_drew ?_ | refine blk_alloc ?_ _)); refine blk_far ?_ NB167_168.out _; (with_reducible repeat (first | refine blk_drewN ?_ _ | refine blk_drew ?_ | refine blk_alloc ?_ _)); refine blk_far ?_ NB167_168.out _; (with_reducible repeat (first | refine blk_drewN ?_ _ | refine blk_drew ?_ | refine blk_alloc ?_ _)); refine blk_far ?_ NB167_168.out _; (with_reducible repeat (first | refine blk_drewN ?_ _ | refine blk_drew ?_ | refine blk_alloc ?_ _)); refine blk_far ?_ NB167_168.out _; (with_reducible repeat (first | refine blk_drewN ?_ _ | refine blk_drew ?_ | refine blk_alloc ?_ _)); refine blk_far ?_ NB167_168.out _; (with_reducible repeat (first | refine blk_drewN ?_ _ | refine blk_drew ?_ | refine blk_alloc ?_ _)); refine blk_far ?_ NB167_168.out _; (with_reducible repeat (first | refine blk_drewN ?_ _ | refine blk_drew ?_ | refine blk_alloc ?_ _)); refine blk_far ?_ NB167_168.out _; (with_reducible repeat (first | refine blk_drewN ?_ _ | refine blk_drew ?_ | refine blk_alloc ?_ _)); refine blk_far ?_ NB167_168.out _; (with_reducible repeat (first | refine blk_drewN ?_ _ | refine blk_drew ?_ | refine blk_alloc ?_ _)); exact BK167.out) hb); have n2_ := Aside0.mk (blk_below (g := gb168) (o := .cells #[.int .i64 0, .int .i64 0, .int .i64 0, .int .i64 0, .int .i64 0, .int .i64 0, .int .u32 0, .string (⟨#[]⟩ : ByteArray)] 64 (0, 0)) (by (with_reducible repeat (first | refine blk_drewN ?_ _ | refine blk_drew ?_ | refine blk_alloc ?_ _)); refine blk_put (cs := #[.int .i64 0, .int .i64 0, .int .i64 0, .int .i64 0, .int .i64 0, .int .i64 0, .int .u32 0, .string (⟨#[]⟩ : ByteArray)]) ?_ 7 _ rfl; refine blk_put (cs := #[.int .i64 0, .int .i64 0, .int .i64 0, .int .i64 0, .int .i64 0, .int .i64 0, .int .u32 0, .string (⟨#[]⟩ : ByteArray)]) ?_ 6 _ rfl; refine blk_put (cs := #[.int .i64 0, .int .i64 0, .int .i64 0, .int .i64 0, .int .i64 0, .int .i64 0, .int .u32 0, .string (⟨#[]⟩ : ByteArray)]) ?_ 5 _ rfl; refine blk_put (cs := #[.int .i64 0, .int .i64 0, .int .i64 0, .int .i64 0, .int .i64 0, .int .i64 0, .int .u32 0, .string (⟨#[]⟩ : ByteArray)]) ?_ 4 _ rfl; refine blk_put (cs := #[.int .i64 0, .int .i64 0, .int .i64 0, .int .i64 0, .int .i64 0, .int .i64 0, .int .u32 0, .string (⟨#[]⟩ : ByteArray)]) ?_ 3 _ rfl; refine blk_put (cs := #[.int .i64 0, .int .i64 0, .int .i64 0, .int .i64 0, .int .i64 0, .int .i64 0, .int .u32 0, .string (⟨#[]⟩ : ByteArray)]) ?_ 2 _ rfl; refine blk_put (cs := #[.int .i64 0, .int .i64 0, .int .i64 0, .int .i64 0, .int .i64 0, .int .i64 0, .int .u32 0, .string (⟨#[]⟩ : ByteArray)]) ?_ 1 _ rfl; refine blk_put (cs := #[.int .i64 0, .int .i64 0, .int .i64 0, .int .i64 0, .int .i64 0, .int .i64 0, .int .u32 0, .string (⟨#[]⟩ : ByteArray)]) ?_ 0 _ rfl; (with_reducible repeat (first | refine blk_drewN ?_ _ | refine blk_drew ?_ | refine blk_alloc ?_ _)); exact BK168.out) hb); have n3_ := Aside0.mk (below_step (by repeat (first | (with_reducible first | exact HB.out | apply below_alloc | apply pw_below_drewN | apply below_drew1 | refine below_set ?_ GE167.out | refine below_set ?_ GE168.out) | exact HB.out)) hb); clear BK167; clear BK168; clear HB; have HO171 := n0_; have BK167 := n1_; have BK168 := n2_; have HB := n3_; clear n0_ n1_ n2_ n3_; (try clear hb); (try clear hb2); (try clear hk); (try clear hi); (try clear ho0)))
   (try simp only [Act.put, List.setIfInBounds_toArray, List.set_cons_zero, List.set_cons_succ])
   go_cut [44] (fun v44 wc => ∃ (kq : Nat) (x44_8 : Bool), v44 = .bool x44_8 ∧ Aside0 (spec_ReadLine.j0 kq t169 x44_8 0 0 0 0 0 0 0 (⟨#[]⟩ : ByteArray) = some (r1, r2, r3, r4, r5, r6, r7, r8)) ∧ Aside0 (kq ≤ k) ∧ Aside0 (Kd.R Kd.string 9 wc w.heap.size (fun _ => True) v170 t169) ∧ Aside0 (wc.heap[gb167]? = some (.cells #[.int .i64 0, .int .i64 0, .int .i64 0, .int .i64 0, .int .i64 0, .int .i64 0, .int .u32 0, .string (⟨#[]⟩ : ByteArray)] 64 (0, 0))) ∧ Aside0 (wc.heap[gb168]? = some (.cells #[.int .i64 0, .int .i64 0, .int .i64 0, .int .i64 0, .int .i64 0, .int .i64 0, .int .u32 0, .string (⟨#[]⟩ : ByteArray)] 64 (0, 0))) ∧ Aside0 (Below w.heap.size w wc))
   case first =>
    have H := HC9.out
    clear HC9
    by_cases c15 : (t169.length : Int) = 1
    · rw [if_pos c15] at H
      have c15b0 : ((t169.length : Int) == 1) = true := beq_iff_eq.mpr c15
      have c15b1 : ((t169.length : Int) != 1) = false := bne_eq_false_iff_eq.mpr c15
      clear c15
      (first | rw [c15b0] | (simp only [i64_w, i32_w]; rw [c15b0]) | skip)
      by_cases c16 : 0 < (t169.length : Int)
      · rw [if_pos c16] at H
        have c16b0 : decide (0 < (t169.length : Int)) = true := decide_eq_true c16
        have c16b1 : decide (0 < t169.length) = true := decide_eq_true (by omega)
        clear c16
        by_cases c17 : ((rdOf ByteArray.empty t169 0).size : Int) > 1
        · rw [if_pos c17] at H
          have c17b0 : decide (1 < ((rdOf ByteArray.empty t169 0).size : Int)) = true := decide_eq_true c17
          have c17b1 : decide (1 < (rdOf ByteArray.empty t169 0).size) = true := decide_eq_true (by omega)
          clear c17
          obtain ⟨ji18, hji18⟩ : ∃ j_ : Int, (wrap64 (((rdOf ByteArray.empty t169 0).size : Int) - 1)) = j_ := ⟨_, rfl⟩
          replace H : (if 0 ≤ (ji18) then (if (ji18) < ((rdOf ByteArray.empty t169 0).size : Int) then (spec_ReadLine.j0 k t169 ((bt (rdOf ByteArray.empty t169 0) (ji18)) == 58) 0 0 0 0 0 0 0 (⟨#[]⟩ : ByteArray)) else (none)) else (none)) = some (r1, r2, r3, r4, r5, r6, r7, r8) := by first | (rw [hji18] at H; exact H) | (simp only [hji18] at H ⊢; exact H)
          have hji18w : (IntKind.i64.wrap (((rdOf ByteArray.empty t169 0).size : Int) - 1)) = ji18 := (i64_w _).trans hji18
          by_cases c19 : 0 ≤ (ji18)
          · rw [if_pos c19] at H
            have c19b0 : decide (0 ≤ (ji18)) = true := decide_eq_true c19
            clear c19
            by_cases c20 : (ji18) < ((rdOf ByteArray.empty t169 0).size : Int)
            · rw [if_pos c20] at H
              have c20b0 : decide ((ji18) < ((rdOf ByteArray.empty t169 0).size : Int)) = true := decide_eq_true c20
              clear c20
              have H' := Aside0.mk H
              clear H
              obtain ⟨Ao22, co22, eo22⟩ := Kd.R_slice HO171.out
              subst eo22
              have p172 : 0 ≤ (0 : Int) := (by omega)
              have q172 : 0 < (t169.length : Int) := of_decide_eq_true (by first | (with_reducible assumption) | assumption)
              obtain ⟨ad172, e172, hx172_0⟩ := Kd.at_string (Kd.R_reads' HO171.out).2.2 0 p172 q172
              cases e172
              have qi172 : (0 < t169.length) = True := eq_true (by omega)
              (try rw [show ((0 : Int)).toNat = 0 from rfl] at hx172_0)
              (try rw [Addr.add_zero'] at hx172_0)
              replace p172 := eq_true p172
              replace q172 := eq_true q172
              have p173 : 0 ≤ (0 : Int) := (by omega)
              have q173 : 0 < (t169.length : Int) := of_decide_eq_true (by first | (with_reducible assumption) | assumption)
              obtain ⟨ad173, e173, hx173_0⟩ := Kd.at_string (Kd.R_reads' HO171.out).2.2 0 p173 q173
              obtain rfl : ad172 = ad173 := (by injection e173)
              have qi173 : (0 < t169.length) = True := eq_true (by omega)
              (try rw [show ((0 : Int)).toNat = 0 from rfl] at hx173_0)
              (try rw [Addr.add_zero'] at hx173_0)
              replace p173 := eq_true p173
              replace q173 := eq_true q173
              have p174 : 0 ≤ (0 : Int) := (by omega)
              have q174 : 0 < (t169.length : Int) := of_decide_eq_true (by first | (with_reducible assumption) | assumption)
              obtain ⟨ad174, e174, hx174_0⟩ := Kd.at_string (Kd.R_reads' HO171.out).2.2 0 p174 q174
              obtain rfl : ad172 = ad174 := (by injection e174)
              have qi174 : (0 < t169.length) = True := eq_true (by omega)
              (try rw [show ((0 : Int)).toNat = 0 from rfl] at hx174_0)
              (try rw [Addr.add_zero'] at hx174_0)
              replace p174 := eq_true p174
              replace q174 := eq_true q174
              have p21 : 0 ≤ ((ji18) : Int) := of_decide_eq_true (by first | (with_reducible assumption) | assumption)
              have q21 : (ji18) < ((rdOf ByteArray.empty t169 0).size : Int) := of_decide_eq_true (by first | (with_reducible assumption) | assumption)
              have hx21 := bt_at (rdOf ByteArray.empty t169 0) (ji18)
              replace p21 := eq_true p21
              replace q21 := eq_true q21
              go_wp2
              repeat (go_quiet (fail); try go_wp2)
              go_meet
              case rel => exact ⟨_, (((bt (rdOf ByteArray.empty t169 0) (ji18)) == 58)), (by first | rfl | (simp; done) | (simp only [← hji18] <;> (first | rfl | simp)) | (simp [*]; done)), H', ⟨by first | omega | exact Nat.le_refl _⟩, ⟨by (with_reducible repeat (first | apply Kd.R_alloc | apply Kd.R_drewN | apply Kd.R_drew)); exact HO171.out⟩, ⟨by (with_reducible repeat (first | refine blk_drewN ?_ _ | refine blk_drew ?_ | refine blk_alloc ?_ _)); exact BK167.out⟩, ⟨by (with_reducible repeat (first | refine blk_drewN ?_ _ | refine blk_drew ?_ | refine blk_alloc ?_ _)); exact BK168.out⟩, ⟨by repeat (first | (with_reducible first | exact HB.out | apply below_alloc | apply pw_below_drewN | apply below_drew1 | refine below_set ?_ GE167.out | refine below_set ?_ GE168.out) | exact HB.out)⟩⟩
            · rw [if_neg c20] at H
              exact absurd H (by simp)
          · rw [if_neg c19] at H
            exact absurd H (by simp)
        · rw [if_neg c17] at H
          have c17b0 : decide (1 < ((rdOf ByteArray.empty t169 0).size : Int)) = false := decide_eq_false c17
          have c17b1 : decide (1 < (rdOf ByteArray.empty t169 0).size) = false := decide_eq_false (by omega)
          clear c17
          have H' := Aside0.mk H
          clear H
          obtain ⟨Ao23, co23, eo23⟩ := Kd.R_slice HO171.out
          subst eo23
          have p172 : 0 ≤ (0 : Int) := (by omega)
          have q172 : 0 < (t169.length : Int) := of_decide_eq_true (by first | (with_reducible assumption) | assumption)
          obtain ⟨ad172, e172, hx172_0⟩ := Kd.at_string (Kd.R_reads' HO171.out).2.2 0 p172 q172
          cases e172
          have qi172 : (0 < t169.length) = True := eq_true (by omega)
          (try rw [show ((0 : Int)).toNat = 0 from rfl] at hx172_0)
          (try rw [Addr.add_zero'] at hx172_0)
          replace p172 := eq_true p172
          replace q172 := eq_true q172
          go_wp2
          repeat (go_quiet (fail); try go_wp2)
          go_meet
          case rel => exact ⟨_, (false), (by first | rfl | (simp; done) | (simp [*]; done)), H', ⟨by first | omega | exact Nat.le_refl _⟩, ⟨by (with_reducible repeat (first | apply Kd.R_alloc | apply Kd.R_drewN | apply Kd.R_drew)); exact HO171.out⟩, ⟨by (with_reducible repeat (first | refine blk_drewN ?_ _ | refine blk_drew ?_ | refine blk_alloc ?_ _)); exact BK167.out⟩, ⟨by (with_reducible repeat (first | refine blk_drewN ?_ _ | refine blk_drew ?_ | refine blk_alloc ?_ _)); exact BK168.out⟩, ⟨by repeat (first | (with_reducible first | exact HB.out | apply below_alloc | apply pw_below_drewN | apply below_drew1 | refine below_set ?_ GE167.out | refine below_set ?_ GE168.out) | exact HB.out)⟩⟩
      · rw [if_neg c16] at H
        exact absurd H (by simp)
    · rw [if_neg c15] at H
      have c15b0 : ((t169.length : Int) == 1) = false := beq_eq_false_iff_ne.mpr c15
      have c15b1 : ((t169.length : Int) != 1) = true := bne_iff_ne.mpr c15
      (first | rw [c15b0] | (simp only [i64_w, i32_w]; rw [c15b0]) | skip)
      have H' := Aside0.mk H
      clear H
      obtain ⟨Ao24, co24, eo24⟩ := Kd.R_slice HO171.out
      subst eo24
      go_wp2
      repeat (go_quiet (fail); try go_wp2)
      go_meet
      case rel => exact ⟨_, (false), (by first | rfl | (simp; done) | (simp [*]; done)), H', ⟨by first | omega | exact Nat.le_refl _⟩, ⟨by (with_reducible repeat (first | apply Kd.R_alloc | apply Kd.R_drewN | apply Kd.R_drew)); exact HO171.out⟩, ⟨by (with_reducible repeat (first | refine blk_drewN ?_ _ | refine blk_drew ?_ | refine blk_alloc ?_ _)); exact BK167.out⟩, ⟨by (with_reducible repeat (first | refine blk_drewN ?_ _ | refine blk_drew ?_ | refine blk_alloc ?_ _)); exact BK168.out⟩, ⟨by repeat (first | (with_reducible first | exact HB.out | apply below_alloc | apply pw_below_drewN | apply below_drew1 | refine below_set ?_ GE167.out | refine below_set ?_ GE168.out) | exact HB.out)⟩⟩
   case rest =>
    clear HC9
    try clear c1
    try clear p1
    try clear q1
    try clear hx1
    try clear qi1
    try clear c2
    try clear c2b0
    try clear c2b1
    try clear p2
    try clear q2
    try clear hx2
    try clear c4
    try clear c5
    try clear p6
    try clear c12
    try clear c15
    try clear c15b0
    try clear c15b1
    try clear c16
    try clear c16b0
    try clear c16b1
    try clear c17
    try clear c17b0
    try clear c17b1
    try clear p17
    try clear q17
    try clear hx17
    try clear qi17
    try clear c19
    try clear c19b0
    try clear c20
    try clear c20b0
    try clear p21
    try clear q21
    try clear hx21
    try clear hx172_0
    try clear hx173_0
    try clear hx174_0
    try clear p172
    try clear p173
    try clear p174
    try clear p21
    try clear q172
    try clear q173
    try clear q174
    try clear q21
    obtain ⟨kq, x44_8, rfl, HA, HJ8, HO_4, BK167, BK168, HB⟩ := hcut
    cases kq with
    | zero => exact absurd HA.out (by simp [spec_ReadLine.j0])
    | succ kj8 =>
     have H := HA.out
     clear HA
     simp only [spec_ReadLine.j0] at H
     by_cases c25 : x44_8 = true
     · subst c25
       have H1 : (if 0 < (t169.length : Int) then (if 0 ≤ (wrap64 (((rdOf ByteArray.empty t169 0).size : Int) - 1)) then (if (wrap64 (((rdOf ByteArray.empty t169 0).size : Int) - 1)) ≤ ((rdOf ByteArray.empty t169 0).size : Int) then ((spec_LabelOk.f kj8 ((rdOf ByteArray.empty t169 0).extract 0 ((wrap64 (((rdOf ByteArray.empty t169 0).size : Int) - 1)) : Int).toNat)).bind fun t177 => (if t177 = true then (some (1, 0, 0, 0, 0, 0, 0, (rdOf ByteArray.empty t169 0).extract 0 ((wrap64 (((rdOf ByteArray.empty t169 0).size : Int) - 1)) : Int).toNat)) else (some (0, 0, 0, 0, 0, 0, 0, (⟨#[]⟩ : ByteArray))))) else (none)) else (none)) else (none)) = some (r1, r2, r3, r4, r5, r6, r7, r8) := by rw [if_pos rfl] at H; exact H
       clear H
       have H := H1
       clear H1
       by_cases c26 : 0 < (t169.length : Int)
       · rw [if_pos c26] at H
         have c26b0 : decide (0 < (t169.length : Int)) = true := decide_eq_true c26
         have c26b1 : decide (0 < t169.length) = true := decide_eq_true (by omega)
         clear c26
         obtain ⟨ji27, hji27⟩ : ∃ j_ : Int, (wrap64 (((rdOf ByteArray.empty t169 0).size : Int) - 1)) = j_ := ⟨_, rfl⟩
         replace H : (if 0 ≤ (ji27) then (if (ji27) ≤ ((rdOf ByteArray.empty t169 0).size : Int) then ((spec_LabelOk.f kj8 ((rdOf ByteArray.empty t169 0).extract 0 ((ji27) : Int).toNat)).bind fun t177 => (if t177 = true then (some (1, 0, 0, 0, 0, 0, 0, (rdOf ByteArray.empty t169 0).extract 0 ((ji27) : Int).toNat)) else (some (0, 0, 0, 0, 0, 0, 0, (⟨#[]⟩ : ByteArray))))) else (none)) else (none)) = some (r1, r2, r3, r4, r5, r6, r7, r8) := by first | (rw [hji27] at H; exact H) | (simp only [hji27] at H ⊢; exact H)
         have hji27w : (IntKind.i64.wrap (((rdOf ByteArray.empty t169 0).size : Int) - 1)) = ji27 := (i64_w _).trans hji27
         by_cases c28 : 0 ≤ (ji27)
         · rw [if_pos c28] at H
           have c28b0 := eq_true c28
           have c28b1 : decide (0 ≤ (ji27)) = true := decide_eq_true c28
           clear c28
           by_cases c29 : (ji27) ≤ ((rdOf ByteArray.empty t169 0).size : Int)
           · rw [if_pos c29] at H
             have c29b0 := eq_true c29
             have c29b1 : decide ((ji27) ≤ ((rdOf ByteArray.empty t169 0).size : Int)) = true := decide_eq_true c29
             clear c29
             replace H := Option.bind_eq_some_iff.mp H
             obtain ⟨t177, A300, H⟩ := H
             replace H : (if t177 = true then (some (1, 0, 0, 0, 0, 0, 0, (rdOf ByteArray.empty t169 0).extract 0 ((ji27) : Int).toNat)) else (some (0, 0, 0, 0, 0, 0, 0, (⟨#[]⟩ : ByteArray)))) = some (r1, r2, r3, r4, r5, r6, r7, r8) := H
             have A30 := Aside0.mk A300
             clear A300
             by_cases c31 : t177 = true
             · subst c31
               have H1 : (some (1, 0, 0, 0, 0, 0, 0, (rdOf ByteArray.empty t169 0).extract 0 ((ji27) : Int).toNat)) = some (r1, r2, r3, r4, r5, r6, r7, r8) := by rw [if_pos rfl] at H; exact H
               clear H
               have H := H1
               clear H1
               simp only [Option.some.injEq, Prod.mk.injEq] at H
               obtain ⟨rfl, rfl, rfl, rfl, rfl, rfl, rfl, rfl⟩ := H
               obtain ⟨Ao32, co32, eo32⟩ := Kd.R_slice HO_4.out
               subst eo32
               have p175 : 0 ≤ (0 : Int) := (by omega)
               have q175 : 0 < (t169.length : Int) := of_decide_eq_true (by first | (with_reducible assumption) | assumption)
               obtain ⟨ad175, e175, hx175_0⟩ := Kd.at_string (Kd.R_reads' HO_4.out).2.2 0 p175 q175
               cases e175
               have qi175 : (0 < t169.length) = True := eq_true (by omega)
               (try rw [show ((0 : Int)).toNat = 0 from rfl] at hx175_0)
               (try rw [Addr.add_zero'] at hx175_0)
               replace p175 := eq_true p175
               replace q175 := eq_true q175
               have p176 : 0 ≤ (0 : Int) := (by omega)
               have q176 : 0 < (t169.length : Int) := of_decide_eq_true (by first | (with_reducible assumption) | assumption)
               obtain ⟨ad176, e176, hx176_0⟩ := Kd.at_string (Kd.R_reads' HO_4.out).2.2 0 p176 q176
               obtain rfl : ad175 = ad176 := (by injection e176)
               have qi176 : (0 < t169.length) = True := eq_true (by omega)
               (try rw [show ((0 : Int)).toNat = 0 from rfl] at hx176_0)
               (try rw [Addr.add_zero'] at hx176_0)
               replace p176 := eq_true p176
               replace q176 := eq_true q176
               go_wp2_with (first | (go_at_call 70; (with_reducible refine (spec_LabelOk.calls kj8 ((rdOf ByteArray.empty t169 0).extract 0 ((ji27) : Int).toNat) true _ A30.out).mono ?_); rintro e w' ⟨rfl, ⟨nd, rfl⟩⟩; (try first | exact ⟨rfl, _, World.drewN_drewN _ _ _⟩ | exact ⟨rfl, _, Eq.trans (World.drewN_drewN _ _ _) (congrArg (World.drewN _) (Nat.add_assoc _ _ _))⟩); have hnb33 := NB167_168.out; have hnc33 := NB168_167.out; have hcz34_0 : wc.cell? ⟨gb167, 0, none⟩ = some (.int .i64 0) := (blk_cell BK167.out 0).trans rfl; have hcz34_1 : wc.cell? ⟨gb167, 1, none⟩ = some (.int .i64 0) := (blk_cell BK167.out 1).trans rfl; have hcz34_2 : wc.cell? ⟨gb167, 2, none⟩ = some (.int .i64 0) := (blk_cell BK167.out 2).trans rfl; have hcz34_3 : wc.cell? ⟨gb167, 3, none⟩ = some (.int .i64 0) := (blk_cell BK167.out 3).trans rfl; have hcz34_4 : wc.cell? ⟨gb167, 4, none⟩ = some (.int .i64 0) := (blk_cell BK167.out 4).trans rfl; have hcz34_5 : wc.cell? ⟨gb167, 5, none⟩ = some (.int .i64 0) := (blk_cell BK167.out 5).trans rfl; have hcz34_6 : wc.cell? ⟨gb167, 6, none⟩ = some (.int .u32 0) := (blk_cell BK167.out 6).trans rfl; have hcz34_7 : wc.cell? ⟨gb167, 7, none⟩ = some (.string (⟨#[]⟩ : ByteArray)) := (blk_cell BK167.out 7).trans rfl; have hfz34_0 := blk_frozen BK167.out 0; have hfz34_1 := blk_frozen BK167.out 1; have hfz34_2 := blk_frozen BK167.out 2; have hfz34_3 := blk_frozen BK167.out 3; have hfz34_4 := blk_frozen BK167.out 4; have hfz34_5 := blk_frozen BK167.out 5; have hfz34_6 := blk_frozen BK167.out 6; have hfz34_7 := blk_frozen BK167.out 7))
               repeat (go_quiet (first | (go_at_call 70; (with_reducible refine (spec_LabelOk.calls kj8 ((rdOf ByteArray.empty t169 0).extract 0 ((ji27) : Int).toNat) true _ A30.out).mono ?_); rintro e w' ⟨rfl, ⟨nd, rfl⟩⟩; (try first | exact ⟨rfl, _, World.drewN_drewN _ _ _⟩ | exact ⟨rfl, _, Eq.trans (World.drewN_drewN _ _ _) (congrArg (World.drewN _) (Nat.add_assoc _ _ _))⟩); have hnb33 := NB167_168.out; have hnc33 := NB168_167.out; have hcz34_0 : wc.cell? ⟨gb167, 0, none⟩ = some (.int .i64 0) := (blk_cell BK167.out 0).trans rfl; have hcz34_1 : wc.cell? ⟨gb167, 1, none⟩ = some (.int .i64 0) := (blk_cell BK167.out 1).trans rfl; have hcz34_2 : wc.cell? ⟨gb167, 2, none⟩ = some (.int .i64 0) := (blk_cell BK167.out 2).trans rfl; have hcz34_3 : wc.cell? ⟨gb167, 3, none⟩ = some (.int .i64 0) := (blk_cell BK167.out 3).trans rfl; have hcz34_4 : wc.cell? ⟨gb167, 4, none⟩ = some (.int .i64 0) := (blk_cell BK167.out 4).trans rfl; have hcz34_5 : wc.cell? ⟨gb167, 5, none⟩ = some (.int .i64 0) := (blk_cell BK167.out 5).trans rfl; have hcz34_6 : wc.cell? ⟨gb167, 6, none⟩ = some (.int .u32 0) := (blk_cell BK167.out 6).trans rfl; have hcz34_7 : wc.cell? ⟨gb167, 7, none⟩ = some (.string (⟨#[]⟩ : ByteArray)) := (blk_cell BK167.out 7).trans rfl; have hfz34_0 := blk_frozen BK167.out 0; have hfz34_1 := blk_frozen BK167.out 1; have hfz34_2 := blk_frozen BK167.out 2; have hfz34_3 := blk_frozen BK167.out 3; have hfz34_4 := blk_frozen BK167.out 4; have hfz34_5 := blk_frozen BK167.out 5; have hfz34_6 := blk_frozen BK167.out 6; have hfz34_7 := blk_frozen BK167.out 7)); try go_wp2_with (first | (go_at_call 70; (with_reducible refine (spec_LabelOk.calls kj8 ((rdOf ByteArray.empty t169 0).extract 0 ((ji27) : Int).toNat) true _ A30.out).mono ?_); rintro e w' ⟨rfl, ⟨nd, rfl⟩⟩; (try first | exact ⟨rfl, _, World.drewN_drewN _ _ _⟩ | exact ⟨rfl, _, Eq.trans (World.drewN_drewN _ _ _) (congrArg (World.drewN _) (Nat.add_assoc _ _ _))⟩); have hnb33 := NB167_168.out; have hnc33 := NB168_167.out; have hcz34_0 : wc.cell? ⟨gb167, 0, none⟩ = some (.int .i64 0) := (blk_cell BK167.out 0).trans rfl; have hcz34_1 : wc.cell? ⟨gb167, 1, none⟩ = some (.int .i64 0) := (blk_cell BK167.out 1).trans rfl; have hcz34_2 : wc.cell? ⟨gb167, 2, none⟩ = some (.int .i64 0) := (blk_cell BK167.out 2).trans rfl; have hcz34_3 : wc.cell? ⟨gb167, 3, none⟩ = some (.int .i64 0) := (blk_cell BK167.out 3).trans rfl; have hcz34_4 : wc.cell? ⟨gb167, 4, none⟩ = some (.int .i64 0) := (blk_cell BK167.out 4).trans rfl; have hcz34_5 : wc.cell? ⟨gb167, 5, none⟩ = some (.int .i64 0) := (blk_cell BK167.out 5).trans rfl; have hcz34_6 : wc.cell? ⟨gb167, 6, none⟩ = some (.int .u32 0) := (blk_cell BK167.out 6).trans rfl; have hcz34_7 : wc.cell? ⟨gb167, 7, none⟩ = some (.string (⟨#[]⟩ : ByteArray)) := (blk_cell BK167.out 7).trans rfl; have hfz34_0 := blk_frozen BK167.out 0; have hfz34_1 := blk_frozen BK167.out 1; have hfz34_2 := blk_frozen BK167.out 2; have hfz34_3 := blk_frozen BK167.out 3; have hfz34_4 := blk_frozen BK167.out 4; have hfz34_5 := blk_frozen BK167.out 5; have hfz34_6 := blk_frozen BK167.out 6; have hfz34_7 := blk_frozen BK167.out 7)))
               refine bodyPost_ret (results_cell_row rfl _ _ gb167 64 #[.int .i64 1, .int .i64 0, .int .i64 0, .int .i64 0, .int .i64 0, .int .i64 0, .int .u32 0, .string ((rdOf ByteArray.empty t169 0).extract 0 ((ji27) : Int).toNat)] (0, 0) _ rfl (by (with_reducible repeat (first | refine blk_drewN ?_ _ | refine blk_drew ?_ | refine blk_alloc ?_ _)); refine blk_put (cs := #[.int .i64 1, .int .i64 0, .int .i64 0, .int .i64 0, .int .i64 0, .int .i64 0, .int .u32 0, .string (⟨#[]⟩ : ByteArray)]) ?_ 7 _ rfl; refine blk_put (cs := #[.int .i64 1, .int .i64 0, .int .i64 0, .int .i64 0, .int .i64 0, .int .i64 0, .int .u32 0, .string (⟨#[]⟩ : ByteArray)]) ?_ 6 _ rfl; refine blk_put (cs := #[.int .i64 1, .int .i64 0, .int .i64 0, .int .i64 0, .int .i64 0, .int .i64 0, .int .u32 0, .string (⟨#[]⟩ : ByteArray)]) ?_ 5 _ rfl; refine blk_put (cs := #[.int .i64 1, .int .i64 0, .int .i64 0, .int .i64 0, .int .i64 0, .int .i64 0, .int .u32 0, .string (⟨#[]⟩ : ByteArray)]) ?_ 4 _ rfl; refine blk_put (cs := #[.int .i64 1, .int .i64 0, .int .i64 0, .int .i64 0, .int .i64 0, .int .i64 0, .int .u32 0, .string (⟨#[]⟩ : ByteArray)]) ?_ 3 _ rfl; refine blk_put (cs := #[.int .i64 1, .int .i64 0, .int .i64 0, .int .i64 0, .int .i64 0, .int .i64 0, .int .u32 0, .string (⟨#[]⟩ : ByteArray)]) ?_ 2 _ rfl; refine blk_put (cs := #[.int .i64 1, .int .i64 0, .int .i64 0, .int .i64 0, .int .i64 0, .int .i64 0, .int .u32 0, .string (⟨#[]⟩ : ByteArray)]) ?_ 1 _ rfl; refine blk_put (cs := #[.int .i64 0, .int .i64 0, .int .i64 0, .int .i64 0, .int .i64 0, .int .i64 0, .int .u32 0, .string (⟨#[]⟩ : ByteArray)]) ?_ 0 _ rfl; (with_reducible repeat (first | refine blk_drewN ?_ _ | refine blk_drew ?_ | refine blk_alloc ?_ _)); exact BK167.out) Tryz.underlying64 rfl (by kernel_rfl)) rfl ?_
               exact ⟨by first | rfl | (simp [errW_none, errW_some] <;> rfl) | (simp only [← hji27]; first | rfl | (simp [errW_none, errW_some] <;> rfl)) | (simp [*, errW_none, errW_some] <;> rfl), by repeat (first | (with_reducible first | exact HB.out | apply below_alloc | apply pw_below_drewN | apply below_drew1 | refine below_set ?_ GE167.out | refine below_set ?_ GE168.out) | exact HB.out)⟩
             · replace c31 := Bool.eq_false_iff.mpr c31
               subst c31
               have H1 : (some (0, 0, 0, 0, 0, 0, 0, (⟨#[]⟩ : ByteArray))) = some (r1, r2, r3, r4, r5, r6, r7, r8) := by rw [if_neg (show ¬ (false = true) by decide)] at H; exact H
               clear H
               have H := H1
               clear H1
               simp only [Option.some.injEq, Prod.mk.injEq] at H
               obtain ⟨rfl, rfl, rfl, rfl, rfl, rfl, rfl, rfl⟩ := H
               obtain ⟨Ao35, co35, eo35⟩ := Kd.R_slice HO_4.out
               subst eo35
               have p175 : 0 ≤ (0 : Int) := (by omega)
               have q175 : 0 < (t169.length : Int) := of_decide_eq_true (by first | (with_reducible assumption) | assumption)
               obtain ⟨ad175, e175, hx175_0⟩ := Kd.at_string (Kd.R_reads' HO_4.out).2.2 0 p175 q175
               cases e175
               have qi175 : (0 < t169.length) = True := eq_true (by omega)
               (try rw [show ((0 : Int)).toNat = 0 from rfl] at hx175_0)
               (try rw [Addr.add_zero'] at hx175_0)
               replace p175 := eq_true p175
               replace q175 := eq_true q175
               have p176 : 0 ≤ (0 : Int) := (by omega)
               have q176 : 0 < (t169.length : Int) := of_decide_eq_true (by first | (with_reducible assumption) | assumption)
               obtain ⟨ad176, e176, hx176_0⟩ := Kd.at_string (Kd.R_reads' HO_4.out).2.2 0 p176 q176
               obtain rfl : ad175 = ad176 := (by injection e176)
               have qi176 : (0 < t169.length) = True := eq_true (by omega)
               (try rw [show ((0 : Int)).toNat = 0 from rfl] at hx176_0)
               (try rw [Addr.add_zero'] at hx176_0)
               replace p176 := eq_true p176
               replace q176 := eq_true q176
               go_wp2_with (first | (go_at_call 70; (with_reducible refine (spec_LabelOk.calls kj8 ((rdOf ByteArray.empty t169 0).extract 0 ((ji27) : Int).toNat) false _ A30.out).mono ?_); rintro e w' ⟨rfl, ⟨nd, rfl⟩⟩; (try first | exact ⟨rfl, _, World.drewN_drewN _ _ _⟩ | exact ⟨rfl, _, Eq.trans (World.drewN_drewN _ _ _) (congrArg (World.drewN _) (Nat.add_assoc _ _ _))⟩); have hnb36 := NB168_167.out; have hnc36 := NB167_168.out; have hcz37_0 : wc.cell? ⟨gb168, 0, none⟩ = some (.int .i64 0) := (blk_cell BK168.out 0).trans rfl; have hcz37_1 : wc.cell? ⟨gb168, 1, none⟩ = some (.int .i64 0) := (blk_cell BK168.out 1).trans rfl; have hcz37_2 : wc.cell? ⟨gb168, 2, none⟩ = some (.int .i64 0) := (blk_cell BK168.out 2).trans rfl; have hcz37_3 : wc.cell? ⟨gb168, 3, none⟩ = some (.int .i64 0) := (blk_cell BK168.out 3).trans rfl; have hcz37_4 : wc.cell? ⟨gb168, 4, none⟩ = some (.int .i64 0) := (blk_cell BK168.out 4).trans rfl; have hcz37_5 : wc.cell? ⟨gb168, 5, none⟩ = some (.int .i64 0) := (blk_cell BK168.out 5).trans rfl; have hcz37_6 : wc.cell? ⟨gb168, 6, none⟩ = some (.int .u32 0) := (blk_cell BK168.out 6).trans rfl; have hcz37_7 : wc.cell? ⟨gb168, 7, none⟩ = some (.string (⟨#[]⟩ : ByteArray)) := (blk_cell BK168.out 7).trans rfl; have hfz37_0 := blk_frozen BK168.out 0; have hfz37_1 := blk_frozen BK168.out 1; have hfz37_2 := blk_frozen BK168.out 2; have hfz37_3 := blk_frozen BK168.out 3; have hfz37_4 := blk_frozen BK168.out 4; have hfz37_5 := blk_frozen BK168.out 5; have hfz37_6 := blk_frozen BK168.out 6; have hfz37_7 := blk_frozen BK168.out 7; have hcz38_0 : wc.cell? ⟨gb167, 0, none⟩ = some (.int .i64 0) := (blk_cell BK167.out 0).trans rfl; have hcz38_1 : wc.cell? ⟨gb167, 1, none⟩ = some (.int .i64 0) := (blk_cell BK167.out 1).trans rfl; have hcz38_2 : wc.cell? ⟨gb167, 2, none⟩ = some (.int .i64 0) := (blk_cell BK167.out 2).trans rfl; have hcz38_3 : wc.cell? ⟨gb167, 3, none⟩ = some (.int .i64 0) := (blk_cell BK167.out 3).trans rfl; have hcz38_4 : wc.cell? ⟨gb167, 4, none⟩ = some (.int .i64 0) := (blk_cell BK167.out 4).trans rfl; have hcz38_5 : wc.cell? ⟨gb167, 5, none⟩ = some (.int .i64 0) := (blk_cell BK167.out 5).trans rfl; have hcz38_6 : wc.cell? ⟨gb167, 6, none⟩ = some (.int .u32 0) := (blk_cell BK167.out 6).trans rfl; have hcz38_7 : wc.cell? ⟨gb167, 7, none⟩ = some (.string (⟨#[]⟩ : ByteArray)) := (blk_cell BK167.out 7).trans rfl; have hfz38_0 := blk_frozen BK167.out 0; have hfz38_1 := blk_frozen BK167.out 1; have hfz38_2 := blk_frozen BK167.out 2; have hfz38_3 := blk_frozen BK167.out 3; have hfz38_4 := blk_frozen BK167.out 4; have hfz38_5 := blk_frozen BK167.out 5; have hfz38_6 := blk_frozen BK167.out 6; have hfz38_7 := blk_frozen BK167.out 7))
               repeat (go_quiet (first | (go_at_call 70; (with_reducible refine (spec_LabelOk.calls kj8 ((rdOf ByteArray.empty t169 0).extract 0 ((ji27) : Int).toNat) false _ A30.out).mono ?_); rintro e w' ⟨rfl, ⟨nd, rfl⟩⟩; (try first | exact ⟨rfl, _, World.drewN_drewN _ _ _⟩ | exact ⟨rfl, _, Eq.trans (World.drewN_drewN _ _ _) (congrArg (World.drewN _) (Nat.add_assoc _ _ _))⟩); have hnb36 := NB168_167.out; have hnc36 := NB167_168.out; have hcz37_0 : wc.cell? ⟨gb168, 0, none⟩ = some (.int .i64 0) := (blk_cell BK168.out 0).trans rfl; have hcz37_1 : wc.cell? ⟨gb168, 1, none⟩ = some (.int .i64 0) := (blk_cell BK168.out 1).trans rfl; have hcz37_2 : wc.cell? ⟨gb168, 2, none⟩ = some (.int .i64 0) := (blk_cell BK168.out 2).trans rfl; have hcz37_3 : wc.cell? ⟨gb168, 3, none⟩ = some (.int .i64 0) := (blk_cell BK168.out 3).trans rfl; have hcz37_4 : wc.cell? ⟨gb168, 4, none⟩ = some (.int .i64 0) := (blk_cell BK168.out 4).trans rfl; have hcz37_5 : wc.cell? ⟨gb168, 5, none⟩ = some (.int .i64 0) := (blk_cell BK168.out 5).trans rfl; have hcz37_6 : wc.cell? ⟨gb168, 6, none⟩ = some (.int .u32 0) := (blk_cell BK168.out 6).trans rfl; have hcz37_7 : wc.cell? ⟨gb168, 7, none⟩ = some (.string (⟨#[]⟩ : ByteArray)) := (blk_cell BK168.out 7).trans rfl; have hfz37_0 := blk_frozen BK168.out 0; have hfz37_1 := blk_frozen BK168.out 1; have hfz37_2 := blk_frozen BK168.out 2; have hfz37_3 := blk_frozen BK168.out 3; have hfz37_4 := blk_frozen BK168.out 4; have hfz37_5 := blk_frozen BK168.out 5; have hfz37_6 := blk_frozen BK168.out 6; have hfz37_7 := blk_frozen BK168.out 7; have hcz38_0 : wc.cell? ⟨gb167, 0, none⟩ = some (.int .i64 0) := (blk_cell BK167.out 0).trans rfl; have hcz38_1 : wc.cell? ⟨gb167, 1, none⟩ = some (.int .i64 0) := (blk_cell BK167.out 1).trans rfl; have hcz38_2 : wc.cell? ⟨gb167, 2, none⟩ = some (.int .i64 0) := (blk_cell BK167.out 2).trans rfl; have hcz38_3 : wc.cell? ⟨gb167, 3, none⟩ = some (.int .i64 0) := (blk_cell BK167.out 3).trans rfl; have hcz38_4 : wc.cell? ⟨gb167, 4, none⟩ = some (.int .i64 0) := (blk_cell BK167.out 4).trans rfl; have hcz38_5 : wc.cell? ⟨gb167, 5, none⟩ = some (.int .i64 0) := (blk_cell BK167.out 5).trans rfl; have hcz38_6 : wc.cell? ⟨gb167, 6, none⟩ = some (.int .u32 0) := (blk_cell BK167.out 6).trans rfl; have hcz38_7 : wc.cell? ⟨gb167, 7, none⟩ = some (.string (⟨#[]⟩ : ByteArray)) := (blk_cell BK167.out 7).trans rfl; have hfz38_0 := blk_frozen BK167.out 0; have hfz38_1 := blk_frozen BK167.out 1; have hfz38_2 := blk_frozen BK167.out 2; have hfz38_3 := blk_frozen BK167.out 3; have hfz38_4 := blk_frozen BK167.out 4; have hfz38_5 := blk_frozen BK167.out 5; have hfz38_6 := blk_frozen BK167.out 6; have hfz38_7 := blk_frozen BK167.out 7)); try go_wp2_with (first | (go_at_call 70; (with_reducible refine (spec_LabelOk.calls kj8 ((rdOf ByteArray.empty t169 0).extract 0 ((ji27) : Int).toNat) false _ A30.out).mono ?_); rintro e w' ⟨rfl, ⟨nd, rfl⟩⟩; (try first | exact ⟨rfl, _, World.drewN_drewN _ _ _⟩ | exact ⟨rfl, _, Eq.trans (World.drewN_drewN _ _ _) (congrArg (World.drewN _) (Nat.add_assoc _ _ _))⟩); have hnb36 := NB168_167.out; have hnc36 := NB167_168.out; have hcz37_0 : wc.cell? ⟨gb168, 0, none⟩ = some (.int .i64 0) := (blk_cell BK168.out 0).trans rfl; have hcz37_1 : wc.cell? ⟨gb168, 1, none⟩ = some (.int .i64 0) := (blk_cell BK168.out 1).trans rfl; have hcz37_2 : wc.cell? ⟨gb168, 2, none⟩ = some (.int .i64 0) := (blk_cell BK168.out 2).trans rfl; have hcz37_3 : wc.cell? ⟨gb168, 3, none⟩ = some (.int .i64 0) := (blk_cell BK168.out 3).trans rfl; have hcz37_4 : wc.cell? ⟨gb168, 4, none⟩ = some (.int .i64 0) := (blk_cell BK168.out 4).trans rfl; have hcz37_5 : wc.cell? ⟨gb168, 5, none⟩ = some (.int .i64 0) := (blk_cell BK168.out 5).trans rfl; have hcz37_6 : wc.cell? ⟨gb168, 6, none⟩ = some (.int .u32 0) := (blk_cell BK168.out 6).trans rfl; have hcz37_7 : wc.cell? ⟨gb168, 7, none⟩ = some (.string (⟨#[]⟩ : ByteArray)) := (blk_cell BK168.out 7).trans rfl; have hfz37_0 := blk_frozen BK168.out 0; have hfz37_1 := blk_frozen BK168.out 1; have hfz37_2 := blk_frozen BK168.out 2; have hfz37_3 := blk_frozen BK168.out 3; have hfz37_4 := blk_frozen BK168.out 4; have hfz37_5 := blk_frozen BK168.out 5; have hfz37_6 := blk_frozen BK168.out 6; have hfz37_7 := blk_frozen BK168.out 7; have hcz38_0 : wc.cell? ⟨gb167, 0, none⟩ = some (.int .i64 0) := (blk_cell BK167.out 0).trans rfl; have hcz38_1 : wc.cell? ⟨gb167, 1, none⟩ = some (.int .i64 0) := (blk_cell BK167.out 1).trans rfl; have hcz38_2 : wc.cell? ⟨gb167, 2, none⟩ = some (.int .i64 0) := (blk_cell BK167.out 2).trans rfl; have hcz38_3 : wc.cell? ⟨gb167, 3, none⟩ = some (.int .i64 0) := (blk_cell BK167.out 3).trans rfl; have hcz38_4 : wc.cell? ⟨gb167, 4, none⟩ = some (.int .i64 0) := (blk_cell BK167.out 4).trans rfl; have hcz38_5 : wc.cell? ⟨gb167, 5, none⟩ = some (.int .i64 0) := (blk_cell BK167.out 5).trans rfl; have hcz38_6 : wc.cell? ⟨gb167, 6, none⟩ = some (.int .u32 0) := (blk_cell BK167.out 6).trans rfl; have hcz38_7 : wc.cell? ⟨gb167, 7, none⟩ = some (.string (⟨#[]⟩ : ByteArray)) := (blk_cell BK167.out 7).trans rfl; have hfz38_0 := blk_frozen BK167.out 0; have hfz38_1 := blk_frozen BK167.out 1; have hfz38_2 := blk_frozen BK167.out 2; have hfz38_3 := blk_frozen BK167.out 3; have hfz38_4 := blk_frozen BK167.out 4; have hfz38_5 := blk_frozen BK167.out 5; have hfz38_6 := blk_frozen BK167.out 6; have hfz38_7 := blk_frozen BK167.out 7)))
               refine bodyPost_ret (results_cell_row rfl _ _ gb167 64 #[.int .i64 0, .int .i64 0, .int .i64 0, .int .i64 0, .int .i64 0, .int .i64 0, .int .u32 0, .string (⟨#[]⟩ : ByteArray)] (0, 0) _ rfl (by (with_reducible repeat (first | refine blk_drewN ?_ _ | refine blk_drew ?_ | refine blk_alloc ?_ _)); refine blk_put (cs := #[.int .i64 0, .int .i64 0, .int .i64 0, .int .i64 0, .int .i64 0, .int .i64 0, .int .u32 0, .string (⟨#[]⟩ : ByteArray)]) ?_ 7 _ rfl; refine blk_put (cs := #[.int .i64 0, .int .i64 0, .int .i64 0, .int .i64 0, .int .i64 0, .int .i64 0, .int .u32 0, .string (⟨#[]⟩ : ByteArray)]) ?_ 6 _ rfl; refine blk_put (cs := #[.int .i64 0, .int .i64 0, .int .i64 0, .int .i64 0, .int .i64 0, .int .i64 0, .int .u32 0, .string (⟨#[]⟩ : ByteArray)]) ?_ 5 _ rfl; refine blk_put (cs := #[.int .i64 0, .int .i64 0, .int .i64 0, .int .i64 0, .int .i64 0, .int .i64 0, .int .u32 0, .string (⟨#[]⟩ : ByteArray)]) ?_ 4 _ rfl; refine blk_put (cs := #[.int .i64 0, .int .i64 0, .int .i64 0, .int .i64 0, .int .i64 0, .int .i64 0, .int .u32 0, .string (⟨#[]⟩ : ByteArray)]) ?_ 3 _ rfl; refine blk_put (cs := #[.int .i64 0, .int .i64 0, .int .i64 0, .int .i64 0, .int .i64 0, .int .i64 0, .int .u32 0, .string (⟨#[]⟩ : ByteArray)]) ?_ 2 _ rfl; refine blk_put (cs := #[.int .i64 0, .int .i64 0, .int .i64 0, .int .i64 0, .int .i64 0, .int .i64 0, .int .u32 0, .string (⟨#[]⟩ : ByteArray)]) ?_ 1 _ rfl; refine blk_put (cs := #[.int .i64 0, .int .i64 0, .int .i64 0, .int .i64 0, .int .i64 0, .int .i64 0, .int .u32 0, .string (⟨#[]⟩ : ByteArray)]) ?_ 0 _ rfl; (with_reducible repeat (first | refine blk_drewN ?_ _ | refine blk_drew ?_ | refine blk_alloc ?_ _)); exact BK167.out) Tryz.underlying64 rfl (by kernel_rfl)) rfl ?_
               exact ⟨by first | rfl | (simp [errW_none, errW_some] <;> rfl) | (simp only [← hji27]; first | rfl | (simp [errW_none, errW_some] <;> rfl)) | (simp [*, errW_none, errW_some] <;> rfl), by repeat (first | (with_reducible first | exact HB.out | apply below_alloc | apply pw_below_drewN | apply below_drew1 | refine below_set ?_ GE167.out | refine below_set ?_ GE168.out) | exact HB.out)⟩
           · rw [if_neg c29] at H
             exact absurd H (by simp)
         · rw [if_neg c28] at H
           exact absurd H (by simp)
       · rw [if_neg c26] at H
         exact absurd H (by simp)
     · replace c25 := Bool.eq_false_iff.mpr c25
       subst c25
       have H1 : (if 0 < (t169.length : Int) then (if (rdOf ByteArray.empty t169 0).toList = ([46, 119, 111, 114, 100] : List UInt8) then (if (t169.length : Int) = 2 then (if 1 < (t169.length : Int) then ((spec_DecNum.f kj8 (rdOf ByteArray.empty t169 1) 4294967295).bind fun bt180 => (if bt180.2 = true then (if bt180.1 < 0 then (some (0, 0, 0, 0, 0, 0, 0, (⟨#[]⟩ : ByteArray))) else (some (2, 0, 0, 0, 0, 0, (bt180.1) % 4294967296, (⟨#[]⟩ : ByteArray)))) else (some (0, 0, 0, 0, 0, 0, 0, (⟨#[]⟩ : ByteArray))))) else (none)) else (some (0, 0, 0, 0, 0, 0, 0, (⟨#[]⟩ : ByteArray)))) else ((spec_OpOf.f kj8 (rdOf ByteArray.empty t169 0)).bind fun t183 => (if t183 < 0 then (some (0, 0, 0, 0, 0, 0, 0, (⟨#[]⟩ : ByteArray))) else ((spec_FormOf.f t183).bind fun t184 => (spec_ReadLine.l0 kj8 t169 t183 t184 1 1 0 0 0 0 0 0 0 (⟨#[]⟩ : ByteArray) 3 t183 0 0 0 0 0 (⟨#[]⟩ : ByteArray)))))) else (none)) = some (r1, r2, r3, r4, r5, r6, r7, r8) := by rw [if_neg (show ¬ (false = true) by decide)] at H; exact H
       clear H
       have H := H1
       clear H1
       by_cases c39 : 0 < (t169.length : Int)
       · rw [if_pos c39] at H
         have c39b0 : decide (0 < (t169.length : Int)) = true := decide_eq_true c39
         have c39b1 : decide (0 < t169.length) = true := decide_eq_true (by omega)
         clear c39
         by_cases c40 : (rdOf ByteArray.empty t169 0).toList = ([46, 119, 111, 114, 100] : List UInt8)
         · rw [if_pos c40] at H
           have c40b0 : ((rdOf ByteArray.empty t169 0).toList == ([46, 119, 111, 114, 100] : List UInt8)) = true := beq_iff_eq.mpr c40
           have c40b1 : ((rdOf ByteArray.empty t169 0).toList != ([46, 119, 111, 114, 100] : List UInt8)) = false := bne_eq_false_iff_eq.mpr c40
           clear c40
           by_cases c41 : (t169.length : Int) = 2
           · rw [if_pos c41] at H
             have c41b0 : ((t169.length : Int) == 2) = true := beq_iff_eq.mpr c41
             have c41b1 : ((t169.length : Int) != 2) = false := bne_eq_false_iff_eq.mpr c41
             clear c41
             by_cases c42 : 1 < (t169.length : Int)
             · rw [if_pos c42] at H
               have c42b0 : decide (1 < (t169.length : Int)) = true := decide_eq_true c42
               have c42b1 : decide (1 < t169.length) = true := decide_eq_true (by omega)
               clear c42
               replace H := Option.bind_eq_some_iff.mp H
               obtain ⟨⟨t180, t181⟩, A430, H⟩ := H
               replace H : (if t181 = true then (if t180 < 0 then (some (0, 0, 0, 0, 0, 0, 0, (⟨#[]⟩ : ByteArray))) else (some (2, 0, 0, 0, 0, 0, (t180) % 4294967296, (⟨#[]⟩ : ByteArray)))) else (some (0, 0, 0, 0, 0, 0, 0, (⟨#[]⟩ : ByteArray)))) = some (r1, r2, r3, r4, r5, r6, r7, r8) := H
               have A43 := Aside0.mk A430
               clear A430
               by_cases c44 : t181 = true
               · subst c44
                 have H1 : (if t180 < 0 then (some (0, 0, 0, 0, 0, 0, 0, (⟨#[]⟩ : ByteArray))) else (some (2, 0, 0, 0, 0, 0, (t180) % 4294967296, (⟨#[]⟩ : ByteArray)))) = some (r1, r2, r3, r4, r5, r6, r7, r8) := by rw [if_pos rfl] at H; exact H
                 clear H
                 have H := H1
                 clear H1
                 by_cases c45 : t180 < 0
                 · rw [if_pos c45] at H
                   have c45b0 : decide (t180 < 0) = true := decide_eq_true c45
                   clear c45
                   simp only [Option.some.injEq, Prod.mk.injEq] at H
                   obtain ⟨rfl, rfl, rfl, rfl, rfl, rfl, rfl, rfl⟩ := H
                   obtain ⟨Ao46, co46, eo46⟩ := Kd.R_slice HO_4.out
                   subst eo46
                   have p178 : 0 ≤ (0 : Int) := (by omega)
                   have q178 : 0 < (t169.length : Int) := of_decide_eq_true (by first | (with_reducible assumption) | assumption)
                   obtain ⟨ad178, e178, hx178_0⟩ := Kd.at_string (Kd.R_reads' HO_4.out).2.2 0 p178 q178
                   cases e178
                   have qi178 : (0 < t169.length) = True := eq_true (by omega)
                   (try rw [show ((0 : Int)).toNat = 0 from rfl] at hx178_0)
                   (try rw [Addr.add_zero'] at hx178_0)
                   replace p178 := eq_true p178
                   replace q178 := eq_true q178
                   have p179 : 0 ≤ (1 : Int) := (by omega)
                   have q179 : 1 < (t169.length : Int) := of_decide_eq_true (by first | (with_reducible assumption) | assumption)
                   obtain ⟨ad179, e179, hx179_0⟩ := Kd.at_string (Kd.R_reads' HO_4.out).2.2 1 p179 q179
                   obtain rfl : ad178 = ad179 := (by injection e179)
                   (try simp only [show (1 : Int).toNat = 1 from rfl, Nat.reduceMul, Nat.reduceEqDiff, Go.Addr.add, ↓reduceIte] at hx179_0)
                   have qi179 : (1 < t169.length) = True := eq_true (by omega)
                   (try rw [show ((1 : Int)).toNat = 1 from rfl] at hx179_0)
                   replace p179 := eq_true p179
                   replace q179 := eq_true q179
                   go_wp2_with (first | (go_at_call 71; (with_reducible refine (spec_DecNum.calls kj8 (rdOf ByteArray.empty t169 1) 4294967295 t180 true _ A43.out).mono ?_); rintro e w' ⟨rfl, ⟨nd, rfl⟩⟩; (try first | exact ⟨rfl, _, World.drewN_drewN _ _ _⟩ | exact ⟨rfl, _, Eq.trans (World.drewN_drewN _ _ _) (congrArg (World.drewN _) (Nat.add_assoc _ _ _))⟩); have hnb47 := NB168_167.out; have hnc47 := NB167_168.out; have hcz48_0 : wc.cell? ⟨gb168, 0, none⟩ = some (.int .i64 0) := (blk_cell BK168.out 0).trans rfl; have hcz48_1 : wc.cell? ⟨gb168, 1, none⟩ = some (.int .i64 0) := (blk_cell BK168.out 1).trans rfl; have hcz48_2 : wc.cell? ⟨gb168, 2, none⟩ = some (.int .i64 0) := (blk_cell BK168.out 2).trans rfl; have hcz48_3 : wc.cell? ⟨gb168, 3, none⟩ = some (.int .i64 0) := (blk_cell BK168.out 3).trans rfl; have hcz48_4 : wc.cell? ⟨gb168, 4, none⟩ = some (.int .i64 0) := (blk_cell BK168.out 4).trans rfl; have hcz48_5 : wc.cell? ⟨gb168, 5, none⟩ = some (.int .i64 0) := (blk_cell BK168.out 5).trans rfl; have hcz48_6 : wc.cell? ⟨gb168, 6, none⟩ = some (.int .u32 0) := (blk_cell BK168.out 6).trans rfl; have hcz48_7 : wc.cell? ⟨gb168, 7, none⟩ = some (.string (⟨#[]⟩ : ByteArray)) := (blk_cell BK168.out 7).trans rfl; have hfz48_0 := blk_frozen BK168.out 0; have hfz48_1 := blk_frozen BK168.out 1; have hfz48_2 := blk_frozen BK168.out 2; have hfz48_3 := blk_frozen BK168.out 3; have hfz48_4 := blk_frozen BK168.out 4; have hfz48_5 := blk_frozen BK168.out 5; have hfz48_6 := blk_frozen BK168.out 6; have hfz48_7 := blk_frozen BK168.out 7; have hcz49_0 : wc.cell? ⟨gb167, 0, none⟩ = some (.int .i64 0) := (blk_cell BK167.out 0).trans rfl; have hcz49_1 : wc.cell? ⟨gb167, 1, none⟩ = some (.int .i64 0) := (blk_cell BK167.out 1).trans rfl; have hcz49_2 : wc.cell? ⟨gb167, 2, none⟩ = some (.int .i64 0) := (blk_cell BK167.out 2).trans rfl; have hcz49_3 : wc.cell? ⟨gb167, 3, none⟩ = some (.int .i64 0) := (blk_cell BK167.out 3).trans rfl; have hcz49_4 : wc.cell? ⟨gb167, 4, none⟩ = some (.int .i64 0) := (blk_cell BK167.out 4).trans rfl; have hcz49_5 : wc.cell? ⟨gb167, 5, none⟩ = some (.int .i64 0) := (blk_cell BK167.out 5).trans rfl; have hcz49_6 : wc.cell? ⟨gb167, 6, none⟩ = some (.int .u32 0) := (blk_cell BK167.out 6).trans rfl; have hcz49_7 : wc.cell? ⟨gb167, 7, none⟩ = some (.string (⟨#[]⟩ : ByteArray)) := (blk_cell BK167.out 7).trans rfl; have hfz49_0 := blk_frozen BK167.out 0; have hfz49_1 := blk_frozen BK167.out 1; have hfz49_2 := blk_frozen BK167.out 2; have hfz49_3 := blk_frozen BK167.out 3; have hfz49_4 := blk_frozen BK167.out 4; have hfz49_5 := blk_frozen BK167.out 5; have hfz49_6 := blk_frozen BK167.out 6; have hfz49_7 := blk_frozen BK167.out 7))
                   refine bodyPost_ret (results_cell_row rfl _ _ gb167 64 #[.int .i64 0, .int .i64 0, .int .i64 0, .int .i64 0, .int .i64 0, .int .i64 0, .int .u32 0, .string (⟨#[]⟩ : ByteArray)] (0, 0) _ rfl (by (with_reducible repeat (first | refine blk_drewN ?_ _ | refine blk_drew ?_ | refine blk_alloc ?_ _)); refine blk_put (cs := #[.int .i64 0, .int .i64 0, .int .i64 0, .int .i64 0, .int .i64 0, .int .i64 0, .int .u32 0, .string (⟨#[]⟩ : ByteArray)]) ?_ 7 _ rfl; refine blk_put (cs := #[.int .i64 0, .int .i64 0, .int .i64 0, .int .i64 0, .int .i64 0, .int .i64 0, .int .u32 0, .string (⟨#[]⟩ : ByteArray)]) ?_ 6 _ rfl; refine blk_put (cs := #[.int .i64 0, .int .i64 0, .int .i64 0, .int .i64 0, .int .i64 0, .int .i64 0, .int .u32 0, .string (⟨#[]⟩ : ByteArray)]) ?_ 5 _ rfl; refine blk_put (cs := #[.int .i64 0, .int .i64 0, .int .i64 0, .int .i64 0, .int .i64 0, .int .i64 0, .int .u32 0, .string (⟨#[]⟩ : ByteArray)]) ?_ 4 _ rfl; refine blk_put (cs := #[.int .i64 0, .int .i64 0, .int .i64 0, .int .i64 0, .int .i64 0, .int .i64 0, .int .u32 0, .string (⟨#[]⟩ : ByteArray)]) ?_ 3 _ rfl; refine blk_put (cs := #[.int .i64 0, .int .i64 0, .int .i64 0, .int .i64 0, .int .i64 0, .int .i64 0, .int .u32 0, .string (⟨#[]⟩ : ByteArray)]) ?_ 2 _ rfl; refine blk_put (cs := #[.int .i64 0, .int .i64 0, .int .i64 0, .int .i64 0, .int .i64 0, .int .i64 0, .int .u32 0, .string (⟨#[]⟩ : ByteArray)]) ?_ 1 _ rfl; refine blk_put (cs := #[.int .i64 0, .int .i64 0, .int .i64 0, .int .i64 0, .int .i64 0, .int .i64 0, .int .u32 0, .string (⟨#[]⟩ : ByteArray)]) ?_ 0 _ rfl; (with_reducible repeat (first | refine blk_drewN ?_ _ | refine blk_drew ?_ | refine blk_alloc ?_ _)); exact BK167.out) Tryz.underlying64 rfl (by kernel_rfl)) rfl ?_
                   exact ⟨by first | rfl | (simp [errW_none, errW_some] <;> rfl) | (simp [*, errW_none, errW_some] <;> rfl), by repeat (first | (with_reducible first | exact HB.out | apply below_alloc | apply pw_below_drewN | apply below_drew1 | refine below_set ?_ GE167.out | refine below_set ?_ GE168.out) | exact HB.out)⟩
                 · rw [if_neg c45] at H
                   have c45b0 : decide (t180 < 0) = false := decide_eq_false c45
                   clear c45
                   simp only [Option.some.injEq, Prod.mk.injEq] at H
                   obtain ⟨rfl, rfl, rfl, rfl, rfl, rfl, rfl, rfl⟩ := H
                   obtain ⟨Ao50, co50, eo50⟩ := Kd.R_slice HO_4.out
                   subst eo50
                   have p178 : 0 ≤ (0 : Int) := (by omega)
                   have q178 : 0 < (t169.length : Int) := of_decide_eq_true (by first | (with_reducible assumption) | assumption)
                   obtain ⟨ad178, e178, hx178_0⟩ := Kd.at_string (Kd.R_reads' HO_4.out).2.2 0 p178 q178
                   cases e178
                   have qi178 : (0 < t169.length) = True := eq_true (by omega)
                   (try rw [show ((0 : Int)).toNat = 0 from rfl] at hx178_0)
                   (try rw [Addr.add_zero'] at hx178_0)
                   replace p178 := eq_true p178
                   replace q178 := eq_true q178
                   have p179 : 0 ≤ (1 : Int) := (by omega)
                   have q179 : 1 < (t169.length : Int) := of_decide_eq_true (by first | (with_reducible assumption) | assumption)
                   obtain ⟨ad179, e179, hx179_0⟩ := Kd.at_string (Kd.R_reads' HO_4.out).2.2 1 p179 q179
                   obtain rfl : ad178 = ad179 := (by injection e179)
                   (try simp only [show (1 : Int).toNat = 1 from rfl, Nat.reduceMul, Nat.reduceEqDiff, Go.Addr.add, ↓reduceIte] at hx179_0)
                   have qi179 : (1 < t169.length) = True := eq_true (by omega)
                   (try rw [show ((1 : Int)).toNat = 1 from rfl] at hx179_0)
                   replace p179 := eq_true p179
                   replace q179 := eq_true q179
                   go_wp2_with (first | (go_at_call 71; (with_reducible refine (spec_DecNum.calls kj8 (rdOf ByteArray.empty t169 1) 4294967295 t180 true _ A43.out).mono ?_); rintro e w' ⟨rfl, ⟨nd, rfl⟩⟩; (try first | exact ⟨rfl, _, World.drewN_drewN _ _ _⟩ | exact ⟨rfl, _, Eq.trans (World.drewN_drewN _ _ _) (congrArg (World.drewN _) (Nat.add_assoc _ _ _))⟩); have hnb51 := NB167_168.out; have hnc51 := NB168_167.out; have hcz52_0 : wc.cell? ⟨gb167, 0, none⟩ = some (.int .i64 0) := (blk_cell BK167.out 0).trans rfl; have hcz52_1 : wc.cell? ⟨gb167, 1, none⟩ = some (.int .i64 0) := (blk_cell BK167.out 1).trans rfl; have hcz52_2 : wc.cell? ⟨gb167, 2, none⟩ = some (.int .i64 0) := (blk_cell BK167.out 2).trans rfl; have hcz52_3 : wc.cell? ⟨gb167, 3, none⟩ = some (.int .i64 0) := (blk_cell BK167.out 3).trans rfl; have hcz52_4 : wc.cell? ⟨gb167, 4, none⟩ = some (.int .i64 0) := (blk_cell BK167.out 4).trans rfl; have hcz52_5 : wc.cell? ⟨gb167, 5, none⟩ = some (.int .i64 0) := (blk_cell BK167.out 5).trans rfl; have hcz52_6 : wc.cell? ⟨gb167, 6, none⟩ = some (.int .u32 0) := (blk_cell BK167.out 6).trans rfl; have hcz52_7 : wc.cell? ⟨gb167, 7, none⟩ = some (.string (⟨#[]⟩ : ByteArray)) := (blk_cell BK167.out 7).trans rfl; have hfz52_0 := blk_frozen BK167.out 0; have hfz52_1 := blk_frozen BK167.out 1; have hfz52_2 := blk_frozen BK167.out 2; have hfz52_3 := blk_frozen BK167.out 3; have hfz52_4 := blk_frozen BK167.out 4; have hfz52_5 := blk_frozen BK167.out 5; have hfz52_6 := blk_frozen BK167.out 6; have hfz52_7 := blk_frozen BK167.out 7))
                   refine bodyPost_ret (results_cell_row rfl _ _ gb167 64 #[.int .i64 2, .int .i64 0, .int .i64 0, .int .i64 0, .int .i64 0, .int .i64 0, .int .u32 ((t180) % 4294967296), .string (⟨#[]⟩ : ByteArray)] (0, 0) _ rfl (by (with_reducible repeat (first | refine blk_drewN ?_ _ | refine blk_drew ?_ | refine blk_alloc ?_ _)); refine blk_put (cs := #[.int .i64 2, .int .i64 0, .int .i64 0, .int .i64 0, .int .i64 0, .int .i64 0, .int .u32 ((t180) % 4294967296), .string (⟨#[]⟩ : ByteArray)]) ?_ 7 _ rfl; (with_reducible repeat (first | refine blk_drewN ?_ _ | refine blk_drew ?_ | refine blk_alloc ?_ _)); refine blk_put (cs := #[.int .i64 2, .int .i64 0, .int .i64 0, .int .i64 0, .int .i64 0, .int .i64 0, .int .u32 0, .string (⟨#[]⟩ : ByteArray)]) ?_ 6 _ rfl; refine blk_put (cs := #[.int .i64 2, .int .i64 0, .int .i64 0, .int .i64 0, .int .i64 0, .int .i64 0, .int .u32 0, .string (⟨#[]⟩ : ByteArray)]) ?_ 5 _ rfl; refine blk_put (cs := #[.int .i64 2, .int .i64 0, .int .i64 0, .int .i64 0, .int .i64 0, .int .i64 0, .int .u32 0, .string (⟨#[]⟩ : ByteArray)]) ?_ 4 _ rfl; refine blk_put (cs := #[.int .i64 2, .int .i64 0, .int .i64 0, .int .i64 0, .int .i64 0, .int .i64 0, .int .u32 0, .string (⟨#[]⟩ : ByteArray)]) ?_ 3 _ rfl; refine blk_put (cs := #[.int .i64 2, .int .i64 0, .int .i64 0, .int .i64 0, .int .i64 0, .int .i64 0, .int .u32 0, .string (⟨#[]⟩ : ByteArray)]) ?_ 2 _ rfl; refine blk_put (cs := #[.int .i64 2, .int .i64 0, .int .i64 0, .int .i64 0, .int .i64 0, .int .i64 0, .int .u32 0, .string (⟨#[]⟩ : ByteArray)]) ?_ 1 _ rfl; refine blk_put (cs := #[.int .i64 0, .int .i64 0, .int .i64 0, .int .i64 0, .int .i64 0, .int .i64 0, .int .u32 0, .string (⟨#[]⟩ : ByteArray)]) ?_ 0 _ rfl; (with_reducible repeat (first | refine blk_drewN ?_ _ | refine blk_drew ?_ | refine blk_alloc ?_ _)); exact BK167.out) Tryz.underlying64 rfl (by kernel_rfl)) rfl ?_
                   exact ⟨by first | rfl | (simp [errW_none, errW_some] <;> rfl) | (simp [*, errW_none, errW_some] <;> rfl), by repeat (first | (with_reducible first | exact HB.out | apply below_alloc | apply pw_below_drewN | apply below_drew1 | refine below_set ?_ GE167.out | refine below_set ?_ GE168.out) | exact HB.out)⟩
               · replace c44 := Bool.eq_false_iff.mpr c44
                 subst c44
                 have H1 : (some (0, 0, 0, 0, 0, 0, 0, (⟨#[]⟩ : ByteArray))) = some (r1, r2, r3, r4, r5, r6, r7, r8) := by rw [if_neg (show ¬ (false = true) by decide)] at H; exact H
                 clear H
                 have H := H1
                 clear H1
                 simp only [Option.some.injEq, Prod.mk.injEq] at H
                 obtain ⟨rfl, rfl, rfl, rfl, rfl, rfl, rfl, rfl⟩ := H
                 obtain ⟨Ao53, co53, eo53⟩ := Kd.R_slice HO_4.out
                 subst eo53
                 have p178 : 0 ≤ (0 : Int) := (by omega)
                 have q178 : 0 < (t169.length : Int) := of_decide_eq_true (by first | (with_reducible assumption) | assumption)
                 obtain ⟨ad178, e178, hx178_0⟩ := Kd.at_string (Kd.R_reads' HO_4.out).2.2 0 p178 q178
                 cases e178
                 have qi178 : (0 < t169.length) = True := eq_true (by omega)
                 (try rw [show ((0 : Int)).toNat = 0 from rfl] at hx178_0)
                 (try rw [Addr.add_zero'] at hx178_0)
                 replace p178 := eq_true p178
                 replace q178 := eq_true q178
                 have p179 : 0 ≤ (1 : Int) := (by omega)
                 have q179 : 1 < (t169.length : Int) := of_decide_eq_true (by first | (with_reducible assumption) | assumption)
                 obtain ⟨ad179, e179, hx179_0⟩ := Kd.at_string (Kd.R_reads' HO_4.out).2.2 1 p179 q179
                 obtain rfl : ad178 = ad179 := (by injection e179)
                 (try simp only [show (1 : Int).toNat = 1 from rfl, Nat.reduceMul, Nat.reduceEqDiff, Go.Addr.add, ↓reduceIte] at hx179_0)
                 have qi179 : (1 < t169.length) = True := eq_true (by omega)
                 (try rw [show ((1 : Int)).toNat = 1 from rfl] at hx179_0)
                 replace p179 := eq_true p179
                 replace q179 := eq_true q179
                 go_wp2_with (first | (go_at_call 71; (with_reducible refine (spec_DecNum.calls kj8 (rdOf ByteArray.empty t169 1) 4294967295 t180 false _ A43.out).mono ?_); rintro e w' ⟨rfl, ⟨nd, rfl⟩⟩; (try first | exact ⟨rfl, _, World.drewN_drewN _ _ _⟩ | exact ⟨rfl, _, Eq.trans (World.drewN_drewN _ _ _) (congrArg (World.drewN _) (Nat.add_assoc _ _ _))⟩); have hnb54 := NB168_167.out; have hnc54 := NB167_168.out; have hcz55_0 : wc.cell? ⟨gb168, 0, none⟩ = some (.int .i64 0) := (blk_cell BK168.out 0).trans rfl; have hcz55_1 : wc.cell? ⟨gb168, 1, none⟩ = some (.int .i64 0) := (blk_cell BK168.out 1).trans rfl; have hcz55_2 : wc.cell? ⟨gb168, 2, none⟩ = some (.int .i64 0) := (blk_cell BK168.out 2).trans rfl; have hcz55_3 : wc.cell? ⟨gb168, 3, none⟩ = some (.int .i64 0) := (blk_cell BK168.out 3).trans rfl; have hcz55_4 : wc.cell? ⟨gb168, 4, none⟩ = some (.int .i64 0) := (blk_cell BK168.out 4).trans rfl; have hcz55_5 : wc.cell? ⟨gb168, 5, none⟩ = some (.int .i64 0) := (blk_cell BK168.out 5).trans rfl; have hcz55_6 : wc.cell? ⟨gb168, 6, none⟩ = some (.int .u32 0) := (blk_cell BK168.out 6).trans rfl; have hcz55_7 : wc.cell? ⟨gb168, 7, none⟩ = some (.string (⟨#[]⟩ : ByteArray)) := (blk_cell BK168.out 7).trans rfl; have hfz55_0 := blk_frozen BK168.out 0; have hfz55_1 := blk_frozen BK168.out 1; have hfz55_2 := blk_frozen BK168.out 2; have hfz55_3 := blk_frozen BK168.out 3; have hfz55_4 := blk_frozen BK168.out 4; have hfz55_5 := blk_frozen BK168.out 5; have hfz55_6 := blk_frozen BK168.out 6; have hfz55_7 := blk_frozen BK168.out 7; have hcz56_0 : wc.cell? ⟨gb167, 0, none⟩ = some (.int .i64 0) := (blk_cell BK167.out 0).trans rfl; have hcz56_1 : wc.cell? ⟨gb167, 1, none⟩ = some (.int .i64 0) := (blk_cell BK167.out 1).trans rfl; have hcz56_2 : wc.cell? ⟨gb167, 2, none⟩ = some (.int .i64 0) := (blk_cell BK167.out 2).trans rfl; have hcz56_3 : wc.cell? ⟨gb167, 3, none⟩ = some (.int .i64 0) := (blk_cell BK167.out 3).trans rfl; have hcz56_4 : wc.cell? ⟨gb167, 4, none⟩ = some (.int .i64 0) := (blk_cell BK167.out 4).trans rfl; have hcz56_5 : wc.cell? ⟨gb167, 5, none⟩ = some (.int .i64 0) := (blk_cell BK167.out 5).trans rfl; have hcz56_6 : wc.cell? ⟨gb167, 6, none⟩ = some (.int .u32 0) := (blk_cell BK167.out 6).trans rfl; have hcz56_7 : wc.cell? ⟨gb167, 7, none⟩ = some (.string (⟨#[]⟩ : ByteArray)) := (blk_cell BK167.out 7).trans rfl; have hfz56_0 := blk_frozen BK167.out 0; have hfz56_1 := blk_frozen BK167.out 1; have hfz56_2 := blk_frozen BK167.out 2; have hfz56_3 := blk_frozen BK167.out 3; have hfz56_4 := blk_frozen BK167.out 4; have hfz56_5 := blk_frozen BK167.out 5; have hfz56_6 := blk_frozen BK167.out 6; have hfz56_7 := blk_frozen BK167.out 7))
                 refine bodyPost_ret (results_cell_row rfl _ _ gb167 64 #[.int .i64 0, .int .i64 0, .int .i64 0, .int .i64 0, .int .i64 0, .int .i64 0, .int .u32 0, .string (⟨#[]⟩ : ByteArray)] (0, 0) _ rfl (by (with_reducible repeat (first | refine blk_drewN ?_ _ | refine blk_drew ?_ | refine blk_alloc ?_ _)); refine blk_put (cs := #[.int .i64 0, .int .i64 0, .int .i64 0, .int .i64 0, .int .i64 0, .int .i64 0, .int .u32 0, .string (⟨#[]⟩ : ByteArray)]) ?_ 7 _ rfl; refine blk_put (cs := #[.int .i64 0, .int .i64 0, .int .i64 0, .int .i64 0, .int .i64 0, .int .i64 0, .int .u32 0, .string (⟨#[]⟩ : ByteArray)]) ?_ 6 _ rfl; refine blk_put (cs := #[.int .i64 0, .int .i64 0, .int .i64 0, .int .i64 0, .int .i64 0, .int .i64 0, .int .u32 0, .string (⟨#[]⟩ : ByteArray)]) ?_ 5 _ rfl; refine blk_put (cs := #[.int .i64 0, .int .i64 0, .int .i64 0, .int .i64 0, .int .i64 0, .int .i64 0, .int .u32 0, .string (⟨#[]⟩ : ByteArray)]) ?_ 4 _ rfl; refine blk_put (cs := #[.int .i64 0, .int .i64 0, .int .i64 0, .int .i64 0, .int .i64 0, .int .i64 0, .int .u32 0, .string (⟨#[]⟩ : ByteArray)]) ?_ 3 _ rfl; refine blk_put (cs := #[.int .i64 0, .int .i64 0, .int .i64 0, .int .i64 0, .int .i64 0, .int .i64 0, .int .u32 0, .string (⟨#[]⟩ : ByteArray)]) ?_ 2 _ rfl; refine blk_put (cs := #[.int .i64 0, .int .i64 0, .int .i64 0, .int .i64 0, .int .i64 0, .int .i64 0, .int .u32 0, .string (⟨#[]⟩ : ByteArray)]) ?_ 1 _ rfl; refine blk_put (cs := #[.int .i64 0, .int .i64 0, .int .i64 0, .int .i64 0, .int .i64 0, .int .i64 0, .int .u32 0, .string (⟨#[]⟩ : ByteArray)]) ?_ 0 _ rfl; (with_reducible repeat (first | refine blk_drewN ?_ _ | refine blk_drew ?_ | refine blk_alloc ?_ _)); exact BK167.out) Tryz.underlying64 rfl (by kernel_rfl)) rfl ?_
                 exact ⟨by first | rfl | (simp [errW_none, errW_some] <;> rfl) | (simp [*, errW_none, errW_some] <;> rfl), by repeat (first | (with_reducible first | exact HB.out | apply below_alloc | apply pw_below_drewN | apply below_drew1 | refine below_set ?_ GE167.out | refine below_set ?_ GE168.out) | exact HB.out)⟩
             · rw [if_neg c42] at H
               exact absurd H (by simp)
           · rw [if_neg c41] at H
             have c41b0 : ((t169.length : Int) == 2) = false := beq_eq_false_iff_ne.mpr c41
             have c41b1 : ((t169.length : Int) != 2) = true := bne_iff_ne.mpr c41
             simp only [Option.some.injEq, Prod.mk.injEq] at H
             obtain ⟨rfl, rfl, rfl, rfl, rfl, rfl, rfl, rfl⟩ := H
             obtain ⟨Ao57, co57, eo57⟩ := Kd.R_slice HO_4.out
             subst eo57
             have p178 : 0 ≤ (0 : Int) := (by omega)
             have q178 : 0 < (t169.length : Int) := of_decide_eq_true (by first | (with_reducible assumption) | assumption)
             obtain ⟨ad178, e178, hx178_0⟩ := Kd.at_string (Kd.R_reads' HO_4.out).2.2 0 p178 q178
             cases e178
             have qi178 : (0 < t169.length) = True := eq_true (by omega)
             (try rw [show ((0 : Int)).toNat = 0 from rfl] at hx178_0)
             (try rw [Addr.add_zero'] at hx178_0)
             replace p178 := eq_true p178
             replace q178 := eq_true q178
             have hnb58 := NB168_167.out
             have hnc58 := NB167_168.out
             have hcz59_0 : wc.cell? ⟨gb168, 0, none⟩ = some (.int .i64 0) := (blk_cell BK168.out 0).trans rfl
             have hcz59_1 : wc.cell? ⟨gb168, 1, none⟩ = some (.int .i64 0) := (blk_cell BK168.out 1).trans rfl
             have hcz59_2 : wc.cell? ⟨gb168, 2, none⟩ = some (.int .i64 0) := (blk_cell BK168.out 2).trans rfl
             have hcz59_3 : wc.cell? ⟨gb168, 3, none⟩ = some (.int .i64 0) := (blk_cell BK168.out 3).trans rfl
             have hcz59_4 : wc.cell? ⟨gb168, 4, none⟩ = some (.int .i64 0) := (blk_cell BK168.out 4).trans rfl
             have hcz59_5 : wc.cell? ⟨gb168, 5, none⟩ = some (.int .i64 0) := (blk_cell BK168.out 5).trans rfl
             have hcz59_6 : wc.cell? ⟨gb168, 6, none⟩ = some (.int .u32 0) := (blk_cell BK168.out 6).trans rfl
             have hcz59_7 : wc.cell? ⟨gb168, 7, none⟩ = some (.string (⟨#[]⟩ : ByteArray)) := (blk_cell BK168.out 7).trans rfl
             have hfz59_0 := blk_frozen BK168.out 0
             have hfz59_1 := blk_frozen BK168.out 1
             have hfz59_2 := blk_frozen BK168.out 2
             have hfz59_3 := blk_frozen BK168.out 3
             have hfz59_4 := blk_frozen BK168.out 4
             have hfz59_5 := blk_frozen BK168.out 5
             have hfz59_6 := blk_frozen BK168.out 6
             have hfz59_7 := blk_frozen BK168.out 7
             have hcz60_0 : wc.cell? ⟨gb167, 0, none⟩ = some (.int .i64 0) := (blk_cell BK167.out 0).trans rfl
             have hcz60_1 : wc.cell? ⟨gb167, 1, none⟩ = some (.int .i64 0) := (blk_cell BK167.out 1).trans rfl
             have hcz60_2 : wc.cell? ⟨gb167, 2, none⟩ = some (.int .i64 0) := (blk_cell BK167.out 2).trans rfl
             have hcz60_3 : wc.cell? ⟨gb167, 3, none⟩ = some (.int .i64 0) := (blk_cell BK167.out 3).trans rfl
             have hcz60_4 : wc.cell? ⟨gb167, 4, none⟩ = some (.int .i64 0) := (blk_cell BK167.out 4).trans rfl
             have hcz60_5 : wc.cell? ⟨gb167, 5, none⟩ = some (.int .i64 0) := (blk_cell BK167.out 5).trans rfl
             have hcz60_6 : wc.cell? ⟨gb167, 6, none⟩ = some (.int .u32 0) := (blk_cell BK167.out 6).trans rfl
             have hcz60_7 : wc.cell? ⟨gb167, 7, none⟩ = some (.string (⟨#[]⟩ : ByteArray)) := (blk_cell BK167.out 7).trans rfl
             have hfz60_0 := blk_frozen BK167.out 0
             have hfz60_1 := blk_frozen BK167.out 1
             have hfz60_2 := blk_frozen BK167.out 2
             have hfz60_3 := blk_frozen BK167.out 3
             have hfz60_4 := blk_frozen BK167.out 4
             have hfz60_5 := blk_frozen BK167.out 5
             have hfz60_6 := blk_frozen BK167.out 6
             have hfz60_7 := blk_frozen BK167.out 7
             go_wp2
             repeat (go_quiet (fail); try go_wp2)
             refine bodyPost_ret (results_cell_row rfl _ _ gb167 64 #[.int .i64 0, .int .i64 0, .int .i64 0, .int .i64 0, .int .i64 0, .int .i64 0, .int .u32 0, .string (⟨#[]⟩ : ByteArray)] (0, 0) _ rfl (by (with_reducible repeat (first | refine blk_drewN ?_ _ | refine blk_drew ?_ | refine blk_alloc ?_ _)); refine blk_put (cs := #[.int .i64 0, .int .i64 0, .int .i64 0, .int .i64 0, .int .i64 0, .int .i64 0, .int .u32 0, .string (⟨#[]⟩ : ByteArray)]) ?_ 7 _ rfl; refine blk_put (cs := #[.int .i64 0, .int .i64 0, .int .i64 0, .int .i64 0, .int .i64 0, .int .i64 0, .int .u32 0, .string (⟨#[]⟩ : ByteArray)]) ?_ 6 _ rfl; refine blk_put (cs := #[.int .i64 0, .int .i64 0, .int .i64 0, .int .i64 0, .int .i64 0, .int .i64 0, .int .u32 0, .string (⟨#[]⟩ : ByteArray)]) ?_ 5 _ rfl; refine blk_put (cs := #[.int .i64 0, .int .i64 0, .int .i64 0, .int .i64 0, .int .i64 0, .int .i64 0, .int .u32 0, .string (⟨#[]⟩ : ByteArray)]) ?_ 4 _ rfl; refine blk_put (cs := #[.int .i64 0, .int .i64 0, .int .i64 0, .int .i64 0, .int .i64 0, .int .i64 0, .int .u32 0, .string (⟨#[]⟩ : ByteArray)]) ?_ 3 _ rfl; refine blk_put (cs := #[.int .i64 0, .int .i64 0, .int .i64 0, .int .i64 0, .int .i64 0, .int .i64 0, .int .u32 0, .string (⟨#[]⟩ : ByteArray)]) ?_ 2 _ rfl; refine blk_put (cs := #[.int .i64 0, .int .i64 0, .int .i64 0, .int .i64 0, .int .i64 0, .int .i64 0, .int .u32 0, .string (⟨#[]⟩ : ByteArray)]) ?_ 1 _ rfl; refine blk_put (cs := #[.int .i64 0, .int .i64 0, .int .i64 0, .int .i64 0, .int .i64 0, .int .i64 0, .int .u32 0, .string (⟨#[]⟩ : ByteArray)]) ?_ 0 _ rfl; (with_reducible repeat (first | refine blk_drewN ?_ _ | refine blk_drew ?_ | refine blk_alloc ?_ _)); exact BK167.out) Tryz.underlying64 rfl (by kernel_rfl)) rfl ?_
             exact ⟨by first | rfl | (simp [errW_none, errW_some] <;> rfl) | (simp [*, errW_none, errW_some] <;> rfl), by repeat (first | (with_reducible first | exact HB.out | apply below_alloc | apply pw_below_drewN | apply below_drew1 | refine below_set ?_ GE167.out | refine below_set ?_ GE168.out) | exact HB.out)⟩
         · rw [if_neg c40] at H
           have c40b0 : ((rdOf ByteArray.empty t169 0).toList == ([46, 119, 111, 114, 100] : List UInt8)) = false := beq_eq_false_iff_ne.mpr c40
           have c40b1 : ((rdOf ByteArray.empty t169 0).toList != ([46, 119, 111, 114, 100] : List UInt8)) = true := bne_iff_ne.mpr c40
           replace H := Option.bind_eq_some_iff.mp H
           obtain ⟨t183, A610, H⟩ := H
           replace H : (if t183 < 0 then (some (0, 0, 0, 0, 0, 0, 0, (⟨#[]⟩ : ByteArray))) else ((spec_FormOf.f t183).bind fun t184 => (spec_ReadLine.l0 kj8 t169 t183 t184 1 1 0 0 0 0 0 0 0 (⟨#[]⟩ : ByteArray) 3 t183 0 0 0 0 0 (⟨#[]⟩ : ByteArray)))) = some (r1, r2, r3, r4, r5, r6, r7, r8) := H
           have A61 := Aside0.mk A610
           clear A610
           by_cases c62 : t183 < 0
           · rw [if_pos c62] at H
             have c62b0 : decide (t183 < 0) = true := decide_eq_true c62
             clear c62
             simp only [Option.some.injEq, Prod.mk.injEq] at H
             obtain ⟨rfl, rfl, rfl, rfl, rfl, rfl, rfl, rfl⟩ := H
             obtain ⟨Ao63, co63, eo63⟩ := Kd.R_slice HO_4.out
             subst eo63
             have p178 : 0 ≤ (0 : Int) := (by omega)
             have q178 : 0 < (t169.length : Int) := of_decide_eq_true (by first | (with_reducible assumption) | assumption)
             obtain ⟨ad178, e178, hx178_0⟩ := Kd.at_string (Kd.R_reads' HO_4.out).2.2 0 p178 q178
             cases e178
             have qi178 : (0 < t169.length) = True := eq_true (by omega)
             (try rw [show ((0 : Int)).toNat = 0 from rfl] at hx178_0)
             (try rw [Addr.add_zero'] at hx178_0)
             replace p178 := eq_true p178
             replace q178 := eq_true q178
             have p182 : 0 ≤ (0 : Int) := (by omega)
             have q182 : 0 < (t169.length : Int) := of_decide_eq_true (by first | (with_reducible assumption) | assumption)
             obtain ⟨ad182, e182, hx182_0⟩ := Kd.at_string (Kd.R_reads' HO_4.out).2.2 0 p182 q182
             obtain rfl : ad178 = ad182 := (by injection e182)
             have qi182 : (0 < t169.length) = True := eq_true (by omega)
             (try rw [show ((0 : Int)).toNat = 0 from rfl] at hx182_0)
             (try rw [Addr.add_zero'] at hx182_0)
             replace p182 := eq_true p182
             replace q182 := eq_true q182
             go_wp2_with (first | (go_at_call 72; (with_reducible refine (spec_OpOf.calls kj8 (rdOf ByteArray.empty t169 0) t183 _ A61.out).mono ?_); rintro e w64 ⟨rfl, hb⟩; have n0_ := Aside0.mk (Kd.R_below (by (with_reducible repeat (first | apply Kd.R_alloc | apply Kd.R_drewN | apply Kd.R_drew)); exact HO_4.out) hb); have n1_ := Aside0.mk (blk_below (g := gb167) (o := .cells #[.int .i64 0, .int .i64 0, .int .i64 0, .int .i64 0, .int .i64 0, .int .i64 0, .int .u32 0, .string (⟨#[]⟩ : ByteArray)] 64 (0, 0)) (by (with_reducible repeat (first | refine blk_drewN ?_ _ | refine blk_drew ?_ | refine blk_alloc ?_ _)); exact BK167.out) hb); have n2_ := Aside0.mk (blk_below (g := gb168) (o := .cells #[.int .i64 0, .int .i64 0, .int .i64 0, .int .i64 0, .int .i64 0, .int .i64 0, .int .u32 0, .string (⟨#[]⟩ : ByteArray)] 64 (0, 0)) (by (with_reducible repeat (first | refine blk_drewN ?_ _ | refine blk_drew ?_ | refine blk_alloc ?_ _)); exact BK168.out) hb); have n3_ := Aside0.mk (below_step (by repeat (first | (with_reducible first | exact HB.out | apply below_alloc | apply pw_below_drewN | apply below_drew1 | refine below_set ?_ GE167.out | refine below_set ?_ GE168.out) | exact HB.out)) hb); clear HO_4; clear BK167; clear BK168; clear HB; have HO_4 := n0_; have BK167 := n1_; have BK168 := n2_; have HB := n3_; clear n0_ n1_ n2_ n3_; (try clear hb); (try clear hb2); (try clear hk); (try clear hi); have hnb65 := NB168_167.out; have hnc65 := NB167_168.out; have hcz66_0 : w64.cell? ⟨gb168, 0, none⟩ = some (.int .i64 0) := (blk_cell BK168.out 0).trans rfl; have hcz66_1 : w64.cell? ⟨gb168, 1, none⟩ = some (.int .i64 0) := (blk_cell BK168.out 1).trans rfl; have hcz66_2 : w64.cell? ⟨gb168, 2, none⟩ = some (.int .i64 0) := (blk_cell BK168.out 2).trans rfl; have hcz66_3 : w64.cell? ⟨gb168, 3, none⟩ = some (.int .i64 0) := (blk_cell BK168.out 3).trans rfl; have hcz66_4 : w64.cell? ⟨gb168, 4, none⟩ = some (.int .i64 0) := (blk_cell BK168.out 4).trans rfl; have hcz66_5 : w64.cell? ⟨gb168, 5, none⟩ = some (.int .i64 0) := (blk_cell BK168.out 5).trans rfl; have hcz66_6 : w64.cell? ⟨gb168, 6, none⟩ = some (.int .u32 0) := (blk_cell BK168.out 6).trans rfl; have hcz66_7 : w64.cell? ⟨gb168, 7, none⟩ = some (.string (⟨#[]⟩ : ByteArray)) := (blk_cell BK168.out 7).trans rfl; have hfz66_0 := blk_frozen BK168.out 0; have hfz66_1 := blk_frozen BK168.out 1; have hfz66_2 := blk_frozen BK168.out 2; have hfz66_3 := blk_frozen BK168.out 3; have hfz66_4 := blk_frozen BK168.out 4; have hfz66_5 := blk_frozen BK168.out 5; have hfz66_6 := blk_frozen BK168.out 6; have hfz66_7 := blk_frozen BK168.out 7; have hcz67_0 : w64.cell? ⟨gb167, 0, none⟩ = some (.int .i64 0) := (blk_cell BK167.out 0).trans rfl; have hcz67_1 : w64.cell? ⟨gb167, 1, none⟩ = some (.int .i64 0) := (blk_cell BK167.out 1).trans rfl; have hcz67_2 : w64.cell? ⟨gb167, 2, none⟩ = some (.int .i64 0) := (blk_cell BK167.out 2).trans rfl; have hcz67_3 : w64.cell? ⟨gb167, 3, none⟩ = some (.int .i64 0) := (blk_cell BK167.out 3).trans rfl; have hcz67_4 : w64.cell? ⟨gb167, 4, none⟩ = some (.int .i64 0) := (blk_cell BK167.out 4).trans rfl; have hcz67_5 : w64.cell? ⟨gb167, 5, none⟩ = some (.int .i64 0) := (blk_cell BK167.out 5).trans rfl; have hcz67_6 : w64.cell? ⟨gb167, 6, none⟩ = some (.int .u32 0) := (blk_cell BK167.out 6).trans rfl; have hcz67_7 : w64.cell? ⟨gb167, 7, none⟩ = some (.string (⟨#[]⟩ : ByteArray)) := (blk_cell BK167.out 7).trans rfl; have hfz67_0 := blk_frozen BK167.out 0; have hfz67_1 := blk_frozen BK167.out 1; have hfz67_2 := blk_frozen BK167.out 2; have hfz67_3 := blk_frozen BK167.out 3; have hfz67_4 := blk_frozen BK167.out 4; have hfz67_5 := blk_frozen BK167.out 5; have hfz67_6 := blk_frozen BK167.out 6; have hfz67_7 := blk_frozen BK167.out 7))
             refine bodyPost_ret (results_cell_row rfl _ _ gb167 64 #[.int .i64 0, .int .i64 0, .int .i64 0, .int .i64 0, .int .i64 0, .int .i64 0, .int .u32 0, .string (⟨#[]⟩ : ByteArray)] (0, 0) _ rfl (by (with_reducible repeat (first | refine blk_drewN ?_ _ | refine blk_drew ?_ | refine blk_alloc ?_ _)); refine blk_put (cs := #[.int .i64 0, .int .i64 0, .int .i64 0, .int .i64 0, .int .i64 0, .int .i64 0, .int .u32 0, .string (⟨#[]⟩ : ByteArray)]) ?_ 7 _ rfl; refine blk_put (cs := #[.int .i64 0, .int .i64 0, .int .i64 0, .int .i64 0, .int .i64 0, .int .i64 0, .int .u32 0, .string (⟨#[]⟩ : ByteArray)]) ?_ 6 _ rfl; refine blk_put (cs := #[.int .i64 0, .int .i64 0, .int .i64 0, .int .i64 0, .int .i64 0, .int .i64 0, .int .u32 0, .string (⟨#[]⟩ : ByteArray)]) ?_ 5 _ rfl; refine blk_put (cs := #[.int .i64 0, .int .i64 0, .int .i64 0, .int .i64 0, .int .i64 0, .int .i64 0, .int .u32 0, .string (⟨#[]⟩ : ByteArray)]) ?_ 4 _ rfl; refine blk_put (cs := #[.int .i64 0, .int .i64 0, .int .i64 0, .int .i64 0, .int .i64 0, .int .i64 0, .int .u32 0, .string (⟨#[]⟩ : ByteArray)]) ?_ 3 _ rfl; refine blk_put (cs := #[.int .i64 0, .int .i64 0, .int .i64 0, .int .i64 0, .int .i64 0, .int .i64 0, .int .u32 0, .string (⟨#[]⟩ : ByteArray)]) ?_ 2 _ rfl; refine blk_put (cs := #[.int .i64 0, .int .i64 0, .int .i64 0, .int .i64 0, .int .i64 0, .int .i64 0, .int .u32 0, .string (⟨#[]⟩ : ByteArray)]) ?_ 1 _ rfl; refine blk_put (cs := #[.int .i64 0, .int .i64 0, .int .i64 0, .int .i64 0, .int .i64 0, .int .i64 0, .int .u32 0, .string (⟨#[]⟩ : ByteArray)]) ?_ 0 _ rfl; (with_reducible repeat (first | refine blk_drewN ?_ _ | refine blk_drew ?_ | refine blk_alloc ?_ _)); exact BK167.out) Tryz.underlying64 rfl (by kernel_rfl)) rfl ?_
             exact ⟨by first | rfl | (simp [errW_none, errW_some] <;> rfl) | (simp [*, errW_none, errW_some] <;> rfl), by repeat (first | (with_reducible first | exact HB.out | apply below_alloc | apply pw_below_drewN | apply below_drew1 | refine below_set ?_ GE167.out | refine below_set ?_ GE168.out) | exact HB.out)⟩
           · rw [if_neg c62] at H
             have c62b0 : decide (t183 < 0) = false := decide_eq_false c62
             clear c62
             replace H := Option.bind_eq_some_iff.mp H
             obtain ⟨t184, A680, H⟩ := H
             replace H : (spec_ReadLine.l0 kj8 t169 t183 t184 1 1 0 0 0 0 0 0 0 (⟨#[]⟩ : ByteArray) 3 t183 0 0 0 0 0 (⟨#[]⟩ : ByteArray)) = some (r1, r2, r3, r4, r5, r6, r7, r8) := H
             have A68 := Aside0.mk A680
             clear A680
             have H' := Aside0.mk H
             clear H
             obtain ⟨Ao69, co69, eo69⟩ := Kd.R_slice HO_4.out
             subst eo69
             have p178 : 0 ≤ (0 : Int) := (by omega)
             have q178 : 0 < (t169.length : Int) := of_decide_eq_true (by first | (with_reducible assumption) | assumption)
             obtain ⟨ad178, e178, hx178_0⟩ := Kd.at_string (Kd.R_reads' HO_4.out).2.2 0 p178 q178
             cases e178
             have qi178 : (0 < t169.length) = True := eq_true (by omega)
             (try rw [show ((0 : Int)).toNat = 0 from rfl] at hx178_0)
             (try rw [Addr.add_zero'] at hx178_0)
             replace p178 := eq_true p178
             replace q178 := eq_true q178
             have p182 : 0 ≤ (0 : Int) := (by omega)
             have q182 : 0 < (t169.length : Int) := of_decide_eq_true (by first | (with_reducible assumption) | assumption)
             obtain ⟨ad182, e182, hx182_0⟩ := Kd.at_string (Kd.R_reads' HO_4.out).2.2 0 p182 q182
             obtain rfl : ad178 = ad182 := (by injection e182)
             have qi182 : (0 < t169.length) = True := eq_true (by omega)
             (try rw [show ((0 : Int)).toNat = 0 from rfl] at hx182_0)
             (try rw [Addr.add_zero'] at hx182_0)
             replace p182 := eq_true p182
             replace q182 := eq_true q182
             go_wp2_with (first | (go_at_call 72; (with_reducible refine (spec_OpOf.calls kj8 (rdOf ByteArray.empty t169 0) t183 _ A61.out).mono ?_); rintro e w70 ⟨rfl, hb⟩; have n0_ := Aside0.mk (Kd.R_below (by (with_reducible repeat (first | apply Kd.R_alloc | apply Kd.R_drewN | apply Kd.R_drew)); exact HO_4.out) hb); have n1_ := Aside0.mk (blk_below (g := gb167) (o := .cells #[.int .i64 0, .int .i64 0, .int .i64 0, .int .i64 0, .int .i64 0, .int .i64 0, .int .u32 0, .string (⟨#[]⟩ : ByteArray)] 64 (0, 0)) (by (with_reducible repeat (first | refine blk_drewN ?_ _ | refine blk_drew ?_ | refine blk_alloc ?_ _)); exact BK167.out) hb); have n2_ := Aside0.mk (blk_below (g := gb168) (o := .cells #[.int .i64 0, .int .i64 0, .int .i64 0, .int .i64 0, .int .i64 0, .int .i64 0, .int .u32 0, .string (⟨#[]⟩ : ByteArray)] 64 (0, 0)) (by (with_reducible repeat (first | refine blk_drewN ?_ _ | refine blk_drew ?_ | refine blk_alloc ?_ _)); exact BK168.out) hb); have n3_ := Aside0.mk (below_step (by repeat (first | (with_reducible first | exact HB.out | apply below_alloc | apply pw_below_drewN | apply below_drew1 | refine below_set ?_ GE167.out | refine below_set ?_ GE168.out) | exact HB.out)) hb); clear HO_4; clear BK167; clear BK168; clear HB; have HO_4 := n0_; have BK167 := n1_; have BK168 := n2_; have HB := n3_; clear n0_ n1_ n2_ n3_; (try clear hb); (try clear hb2); (try clear hk); (try clear hi)) | (go_at_call 48; (with_reducible refine (spec_FormOf.calls t183 t184 _ A68.out).mono ?_); rintro e w71 ⟨rfl, hb⟩; have n0_ := Aside0.mk (Kd.R_below (by (with_reducible repeat (first | apply Kd.R_alloc | apply Kd.R_drewN | apply Kd.R_drew)); exact HO_4.out) hb); have n1_ := Aside0.mk (blk_below (g := gb167) (o := .cells #[.int .i64 0, .int .i64 0, .int .i64 0, .int .i64 0, .int .i64 0, .int .i64 0, .int .u32 0, .string (⟨#[]⟩ : ByteArray)] 64 (0, 0)) (by (with_reducible repeat (first | refine blk_drewN ?_ _ | refine blk_drew ?_ | refine blk_alloc ?_ _)); exact BK167.out) hb); have n2_ := Aside0.mk (blk_below (g := gb168) (o := .cells #[.int .i64 0, .int .i64 0, .int .i64 0, .int .i64 0, .int .i64 0, .int .i64 0, .int .u32 0, .string (⟨#[]⟩ : ByteArray)] 64 (0, 0)) (by (with_reducible repeat (first | refine blk_drewN ?_ _ | refine blk_drew ?_ | refine blk_alloc ?_ _)); exact BK168.out) hb); have n3_ := Aside0.mk (below_step (by repeat (first | (with_reducible first | exact HB.out | apply below_alloc | apply pw_below_drewN | apply below_drew1 | refine below_set ?_ GE167.out | refine below_set ?_ GE168.out) | exact HB.out)) hb); clear HO_4; clear BK167; clear BK168; clear HB; have HO_4 := n0_; have BK167 := n1_; have BK168 := n2_; have HB := n3_; clear n0_ n1_ n2_ n3_; (try clear hb); (try clear hb2); (try clear hk); (try clear hi)) | ((with_reducible refine gate_dst (N := 10) rfl ?_); (try (refine gate_guard (by rfl) ?_; dsimp only)); refine box_event ?hg (N := 10) ?hd (cs := #[.int .i64 0, .int .i64 0, .int .i64 0, .int .i64 0, .int .i64 0, .int .i64 0, .int .u32 0, .string (⟨#[]⟩ : ByteArray)]) (t := 64) ?hr ?_; (case hd => rfl); (case hg => rfl); (case hr => first | (go_simp; done) | (go_simp; rfl)); intro gb185 hg w72 hbox hb; have n0_ := Aside0.mk (Kd.R_below (by (with_reducible repeat (first | apply Kd.R_alloc | apply Kd.R_drewN | apply Kd.R_drew)); exact HO_4.out) hb); have n1_ := Aside0.mk (blk_below (g := gb167) (o := .cells #[.int .i64 0, .int .i64 0, .int .i64 0, .int .i64 0, .int .i64 0, .int .i64 0, .int .u32 0, .string (⟨#[]⟩ : ByteArray)] 64 (0, 0)) (by (with_reducible repeat (first | refine blk_drewN ?_ _ | refine blk_drew ?_ | refine blk_alloc ?_ _)); exact BK167.out) hb); have n2_ := Aside0.mk (blk_below (g := gb168) (o := .cells #[.int .i64 0, .int .i64 0, .int .i64 0, .int .i64 0, .int .i64 0, .int .i64 0, .int .u32 0, .string (⟨#[]⟩ : ByteArray)] 64 (0, 0)) (by (with_reducible repeat (first | refine blk_drewN ?_ _ | refine blk_drew ?_ | refine blk_alloc ?_ _)); exact BK168.out) hb); have n3_ := Aside0.mk (below_step (by repeat (first | (with_reducible first | exact HB.out | apply below_alloc | apply pw_below_drewN | apply below_drew1 | refine below_set ?_ GE167.out | refine below_set ?_ GE168.out) | exact HB.out)) hb); have n4_ := Aside0.mk (hbox); have n5_ := Aside0.mk ((by rw [hg]; exact (below_size (by repeat (first | (with_reducible first | exact HB.out | apply below_alloc | apply pw_below_drewN | apply below_drew1 | refine below_set ?_ GE167.out | refine below_set ?_ GE168.out) | exact HB.out))) : w.heap.size ≤ gb185)); have n6_ := Aside0.mk ((by rw [hg]; exact (below_size (by repeat (first | (with_reducible first | exact HB.out | apply below_alloc | apply pw_below_drewN | apply below_drew1 | refine below_set ?_ GE167.out | refine below_set ?_ GE168.out) | exact HB.out))) : w.heap.size ≤ gb185)); have n7_ := Aside0.mk ((by rw [hg]; exact Nat.ne_of_lt (blk_lt (g := gb167) (o := .cells #[.int .i64 0, .int .i64 0, .int .i64 0, .int .i64 0, .int .i64 0, .int .i64 0, .int .u32 0, .string (⟨#[]⟩ : ByteArray)] 64 (0, 0)) (by (with_reducible repeat (first | refine blk_drewN ?_ _ | refine blk_drew ?_ | refine blk_alloc ?_ _)); exact BK167.out)) : gb167 ≠ gb185)); have n8_ := Aside0.mk ((by rw [hg]; exact Nat.ne_of_gt (blk_lt (g := gb167) (o := .cells #[.int .i64 0, .int .i64 0, .int .i64 0, .int .i64 0, .int .i64 0, .int .i64 0, .int .u32 0, .string (⟨#[]⟩ : ByteArray)] 64 (0, 0)) (by (with_reducible repeat (first | refine blk_drewN ?_ _ | refine blk_drew ?_ | refine blk_alloc ?_ _)); exact BK167.out)) : gb185 ≠ gb167)); have n9_ := Aside0.mk ((by rw [hg]; exact Nat.ne_of_lt (blk_lt (g := gb168) (o := .cells #[.int .i64 0, .int .i64 0, .int .i64 0, .int .i64 0, .int .i64 0, .int .i64 0, .int .u32 0, .string (⟨#[]⟩ : ByteArray)] 64 (0, 0)) (by (with_reducible repeat (first | refine blk_drewN ?_ _ | refine blk_drew ?_ | refine blk_alloc ?_ _)); exact BK168.out)) : gb168 ≠ gb185)); have n10_ := Aside0.mk ((by rw [hg]; exact Nat.ne_of_gt (blk_lt (g := gb168) (o := .cells #[.int .i64 0, .int .i64 0, .int .i64 0, .int .i64 0, .int .i64 0, .int .i64 0, .int .u32 0, .string (⟨#[]⟩ : ByteArray)] 64 (0, 0)) (by (with_reducible repeat (first | refine blk_drewN ?_ _ | refine blk_drew ?_ | refine blk_alloc ?_ _)); exact BK168.out)) : gb185 ≠ gb168)); clear HO_4; clear BK167; clear BK168; clear HB; have HO_4 := n0_; have BK167 := n1_; have BK168 := n2_; have HB := n3_; have BK185 := n4_; have GW185 := n5_; have GE185 := n6_; have NB167_185 := n7_; have NB185_167 := n8_; have NB168_185 := n9_; have NB185_168 := n10_; clear n0_ n1_ n2_ n3_ n4_ n5_ n6_ n7_ n8_ n9_ n10_; clear hb hbox hg; have hnb73 := NB185_167.out; have hnc73 := NB167_185.out; have hnb74 := NB185_168.out; have hnc74 := NB168_185.out; have hcz75_0 : w72.cell? ⟨gb185, 0, none⟩ = some (.int .i64 0) := (blk_cell BK185.out 0).trans rfl; have hcz75_1 : w72.cell? ⟨gb185, 1, none⟩ = some (.int .i64 0) := (blk_cell BK185.out 1).trans rfl; have hcz75_2 : w72.cell? ⟨gb185, 2, none⟩ = some (.int .i64 0) := (blk_cell BK185.out 2).trans rfl; have hcz75_3 : w72.cell? ⟨gb185, 3, none⟩ = some (.int .i64 0) := (blk_cell BK185.out 3).trans rfl; have hcz75_4 : w72.cell? ⟨gb185, 4, none⟩ = some (.int .i64 0) := (blk_cell BK185.out 4).trans rfl; have hcz75_5 : w72.cell? ⟨gb185, 5, none⟩ = some (.int .i64 0) := (blk_cell BK185.out 5).trans rfl; have hcz75_6 : w72.cell? ⟨gb185, 6, none⟩ = some (.int .u32 0) := (blk_cell BK185.out 6).trans rfl; have hcz75_7 : w72.cell? ⟨gb185, 7, none⟩ = some (.string (⟨#[]⟩ : ByteArray)) := (blk_cell BK185.out 7).trans rfl; have hfz75_0 := blk_frozen BK185.out 0; have hfz75_1 := blk_frozen BK185.out 1; have hfz75_2 := blk_frozen BK185.out 2; have hfz75_3 := blk_frozen BK185.out 3; have hfz75_4 := blk_frozen BK185.out 4; have hfz75_5 := blk_frozen BK185.out 5; have hfz75_6 := blk_frozen BK185.out 6; have hfz75_7 := blk_frozen BK185.out 7))
             go_loopg [11, 12] kj8 (fun kq v11 v12 w' => ∃ (x11_2 : Int) (x12_2 : Int) (x168000_2 : Int) (x168001_2 : Int) (x168002_2 : Int) (x168003_2 : Int) (x168004_2 : Int) (x168005_2 : Int) (x168006_2 : Int) (x168007_2 : ByteArray) (x186002_2 : Int) (x186003_2 : Int) (x186004_2 : Int), v11 = .int .i64 x11_2 ∧ v12 = .int .i64 x12_2 ∧ Aside0 (spec_ReadLine.l0 kq t169 t183 t184 x11_2 x12_2 0 0 0 0 0 0 0 (⟨#[]⟩ : ByteArray) 3 t183 x186002_2 x186003_2 x186004_2 0 0 (⟨#[]⟩ : ByteArray) = some (r1, r2, r3, r4, r5, r6, r7, r8)) ∧ Aside0 (kq ≤ kj8) ∧ Aside0 (Kd.R Kd.string 9 w' w.heap.size (fun _ => True) (.slice (some ad178) t169.length co69) t169) ∧ Aside0 (w'.heap[gb167]? = some (.cells #[.int .i64 x168000_2, .int .i64 x168001_2, .int .i64 x168002_2, .int .i64 x168003_2, .int .i64 x168004_2, .int .i64 x168005_2, .int .u32 x168006_2, .string x168007_2] 64 (0, 0))) ∧ Aside0 (w'.heap[gb168]? = some (.cells #[.int .i64 0, .int .i64 0, .int .i64 0, .int .i64 0, .int .i64 0, .int .i64 0, .int .u32 0, .string (⟨#[]⟩ : ByteArray)] 64 (0, 0))) ∧ Aside0 (w'.heap[gb185]? = some (.cells #[.int .i64 3, .int .i64 t183, .int .i64 x186002_2, .int .i64 x186003_2, .int .i64 x186004_2, .int .i64 0, .int .u32 0, .string (⟨#[]⟩ : ByteArray)] 64 (0, 0))) ∧ Aside0 (Below w.heap.size w w'))
             case atStart => exact ⟨(1), (1), (0), (0), (0), (0), (0), (0), (0), ((⟨#[]⟩ : ByteArray)), (0), (0), (0), (by first | rfl | (simp; done) | (simp [*]; done)), (by first | rfl | (simp; done) | (simp [*]; done)), H', ⟨Nat.le_refl _⟩, ⟨by (with_reducible repeat (first | apply Kd.R_alloc | apply Kd.R_drewN | apply Kd.R_drew)); exact Kd.R_mono (Kd.R_far (p := ⟨gb185, 1, none⟩) (Kd.R_far (p := ⟨gb185, 7, none⟩) (Kd.R_far (p := ⟨gb185, 6, none⟩) (Kd.R_far (p := ⟨gb185, 5, none⟩) (Kd.R_far (p := ⟨gb185, 4, none⟩) (Kd.R_far (p := ⟨gb185, 3, none⟩) (Kd.R_far (p := ⟨gb185, 2, none⟩) (Kd.R_far (p := ⟨gb185, 1, none⟩) (Kd.R_far (p := ⟨gb185, 0, none⟩) (Kd.R_types HO_4.out BK185.out (by decide)) (fun _ hk => hk.2) (.int .i64 3)) (fun _ hk => hk.2) (.int .i64 0)) (fun _ hk => hk.2) (.int .i64 0)) (fun _ hk => hk.2) (.int .i64 0)) (fun _ hk => hk.2) (.int .i64 0)) (fun _ hk => hk.2) (.int .i64 0)) (fun _ hk => hk.2) (.int .u32 0)) (fun _ hk => hk.2) (.string (⟨#[]⟩ : ByteArray))) (fun _ hk => hk.2) (.int .i64 t183)) (fun _ hk => trivial)⟩, ⟨by (with_reducible repeat (first | refine blk_drewN ?_ _ | refine blk_drew ?_ | refine blk_alloc ?_ _)); refine blk_far ?_ NB167_185.out _; (with_reducible repeat (first | refine blk_drewN ?_ _ | refine blk_drew ?_ | refine blk_alloc ?_ _)); refine blk_far ?_ NB167_185.out _; (with_reducible repeat (first | refine blk_drewN ?_ _ | refine blk_drew ?_ | refine blk_alloc ?_ _)); refine blk_far ?_ NB167_185.out _; (with_reducible repeat (first | refine blk_drewN ?_ _ | refine blk_drew ?_ | refine blk_alloc ?_ _)); refine blk_far ?_ NB167_185.out _; (with_reducible repeat (first | refine blk_drewN ?_ _ | refine blk_drew ?_ | refine blk_alloc ?_ _)); refine blk_far ?_ NB167_185.out _; (with_reducible repeat (first | refine blk_drewN ?_ _ | refine blk_drew ?_ | refine blk_alloc ?_ _)); refine blk_far ?_ NB167_185.out _; (with_reducible repeat (first | refine blk_drewN ?_ _ | refine blk_drew ?_ | refine blk_alloc ?_ _)); refine blk_far ?_ NB167_185.out _; (with_reducible repeat (first | refine blk_drewN ?_ _ | refine blk_drew ?_ | refine blk_alloc ?_ _)); refine blk_far ?_ NB167_185.out _; (with_reducible repeat (first | refine blk_drewN ?_ _ | refine blk_drew ?_ | refine blk_alloc ?_ _)); refine blk_far ?_ NB167_185.out _; (with_reducible repeat (first | refine blk_drewN ?_ _ | refine blk_drew ?_ | refine blk_alloc ?_ _)); exact BK167.out⟩, ⟨by (with_reducible repeat (first | refine blk_drewN ?_ _ | refine blk_drew ?_ | refine blk_alloc ?_ _)); refine blk_far ?_ NB168_185.out _; (with_reducible repeat (first | refine blk_drewN ?_ _ | refine blk_drew ?_ | refine blk_alloc ?_ _)); refine blk_far ?_ NB168_185.out _; (with_reducible repeat (first | refine blk_drewN ?_ _ | refine blk_drew ?_ | refine blk_alloc ?_ _)); refine blk_far ?_ NB168_185.out _; (with_reducible repeat (first | refine blk_drewN ?_ _ | refine blk_drew ?_ | refine blk_alloc ?_ _)); refine blk_far ?_ NB168_185.out _; (with_reducible repeat (first | refine blk_drewN ?_ _ | refine blk_drew ?_ | refine blk_alloc ?_ _)); refine blk_far ?_ NB168_185.out _; (with_reducible repeat (first | refine blk_drewN ?_ _ | refine blk_drew ?_ | refine blk_alloc ?_ _)); refine blk_far ?_ NB168_185.out _; (with_reducible repeat (first | refine blk_drewN ?_ _ | refine blk_drew ?_ | refine blk_alloc ?_ _)); refine blk_far ?_ NB168_185.out _; (with_reducible repeat (first | refine blk_drewN ?_ _ | refine blk_drew ?_ | refine blk_alloc ?_ _)); refine blk_far ?_ NB168_185.out _; (with_reducible repeat (first | refine blk_drewN ?_ _ | refine blk_drew ?_ | refine blk_alloc ?_ _)); refine blk_far ?_ NB168_185.out _; (with_reducible repeat (first | refine blk_drewN ?_ _ | refine blk_drew ?_ | refine blk_alloc ?_ _)); exact BK168.out⟩, ⟨by (with_reducible repeat (first | refine blk_drewN ?_ _ | refine blk_drew ?_ | refine blk_alloc ?_ _)); refine blk_put (cs := #[.int .i64 3, .int .i64 0, .int .i64 0, .int .i64 0, .int .i64 0, .int .i64 0, .int .u32 0, .string (⟨#[]⟩ : ByteArray)]) ?_ 1 _ rfl; (with_reducible repeat (first | refine blk_drewN ?_ _ | refine blk_drew ?_ | refine blk_alloc ?_ _)); refine blk_put (cs := #[.int .i64 3, .int .i64 0, .int .i64 0, .int .i64 0, .int .i64 0, .int .i64 0, .int .u32 0, .string (⟨#[]⟩ : ByteArray)]) ?_ 7 _ rfl; refine blk_put (cs := #[.int .i64 3, .int .i64 0, .int .i64 0, .int .i64 0, .int .i64 0, .int .i64 0, .int .u32 0, .string (⟨#[]⟩ : ByteArray)]) ?_ 6 _ rfl; refine blk_put (cs := #[.int .i64 3, .int .i64 0, .int .i64 0, .int .i64 0, .int .i64 0, .int .i64 0, .int .u32 0, .string (⟨#[]⟩ : ByteArray)]) ?_ 5 _ rfl; refine blk_put (cs := #[.int .i64 3, .int .i64 0, .int .i64 0, .int .i64 0, .int .i64 0, .int .i64 0, .int .u32 0, .string (⟨#[]⟩ : ByteArray)]) ?_ 4 _ rfl; refine blk_put (cs := #[.int .i64 3, .int .i64 0, .int .i64 0, .int .i64 0, .int .i64 0, .int .i64 0, .int .u32 0, .string (⟨#[]⟩ : ByteArray)]) ?_ 3 _ rfl; refine blk_put (cs := #[.int .i64 3, .int .i64 0, .int .i64 0, .int .i64 0, .int .i64 0, .int .i64 0, .int .u32 0, .string (⟨#[]⟩ : ByteArray)]) ?_ 2 _ rfl; refine blk_put (cs := #[.int .i64 3, .int .i64 0, .int .i64 0, .int .i64 0, .int .i64 0, .int .i64 0, .int .u32 0, .string (⟨#[]⟩ : ByteArray)]) ?_ 1 _ rfl; refine blk_put (cs := #[.int .i64 0, .int .i64 0, .int .i64 0, .int .i64 0, .int .i64 0, .int .i64 0, .int .u32 0, .string (⟨#[]⟩ : ByteArray)]) ?_ 0 _ rfl; (with_reducible repeat (first | refine blk_drewN ?_ _ | refine blk_drew ?_ | refine blk_alloc ?_ _)); exact BK185.out⟩, ⟨by repeat (first | (with_reducible first | exact HB.out | apply below_alloc | apply pw_below_drewN | apply below_drew1 | refine below_set ?_ GE167.out | refine below_set ?_ GE168.out | refine below_set ?_ GE185.out) | exact HB.out)⟩⟩
             case round =>
              clear H'
              try clear c1
              try clear p1
              try clear q1
              try clear hx1
              try clear qi1
              try clear c2
              try clear c2b0
              try clear c2b1
              try clear p2
              try clear q2
              try clear hx2
              try clear c3
              try clear c4
              try clear c5
              try clear c6
              try clear p6
              try clear c7
              try clear c12
              try clear c15
              try clear c15b0
              try clear c15b1
              try clear c16
              try clear c16b0
              try clear c16b1
              try clear c17
              try clear c17b0
              try clear c17b1
              try clear p17
              try clear q17
              try clear hx17
              try clear qi17
              try clear p18
              try clear q18
              try clear hx18
              try clear qi18
              try clear c19
              try clear c19b0
              try clear c20
              try clear c20b0
              try clear p21
              try clear q21
              try clear hx21
              try clear c25
              try clear c26
              try clear c26b0
              try clear c26b1
              try clear c28
              try clear c28b0
              try clear c28b1
              try clear c29
              try clear c29b0
              try clear c29b1
              try clear c31
              try clear c33
              try clear c36
              try clear c39
              try clear c39b0
              try clear c39b1
              try clear c40
              try clear c40b0
              try clear c40b1
              try clear c41
              try clear c41b0
              try clear c41b1
              try clear c42
              try clear c42b0
              try clear c42b1
              try clear c44
              try clear c45
              try clear c45b0
              try clear c47
              try clear c51
              try clear c54
              try clear c58
              try clear c62
              try clear c62b0
              try clear p64
              try clear c65
              try clear c73
              try clear c74
              try clear hx172_0
              try clear hx173_0
              try clear hx174_0
              try clear hx175_0
              try clear hx176_0
              try clear hx178_0
              try clear hx179_0
              try clear hx182_0
              try clear p1
              try clear p17
              try clear p172
              try clear p173
              try clear p174
              try clear p175
              try clear p176
              try clear p178
              try clear p179
              try clear p182
              try clear p2
              try clear p21
              try clear p6
              try clear q1
              try clear q17
              try clear q172
              try clear q173
              try clear q174
              try clear q175
              try clear q176
              try clear q178
              try clear q179
              try clear q182
              try clear q2
              try clear q21
              obtain ⟨x11_2, x12_2, x168000_2, x168001_2, x168002_2, x168003_2, x168004_2, x168005_2, x168006_2, x168007_2, x186002_2, x186003_2, x186004_2, rfl, rfl, HA, HK2, HO_4, BK167, BK168, BK185, HB⟩ := hrel
              cases gk with
              | zero => exact absurd HA.out (by simp [spec_ReadLine.l0])
              | succ k2 =>
               have H := HA.out
               clear HA
               simp only [spec_ReadLine.l0] at H
               by_cases c76 : x12_2 ≤ 4
               · rw [if_pos c76] at H
                 have c76b0 : decide (x12_2 ≤ 4) = true := decide_eq_true c76
                 clear c76
                 by_cases c77 : x12_2 = 0
                 · rw [if_pos c77] at H
                   exact absurd H (by simp)
                 · rw [if_neg c77] at H
                   have c77b0 : (x12_2 == 0) = false := beq_eq_false_iff_ne.mpr c77
                   have c77b1 : (x12_2 != 0) = true := bne_iff_ne.mpr c77
                   by_cases c78 : (Int.tmod (wrap64 (Int.tdiv t184 x12_2)) 2) = 1
                   · rw [if_pos c78] at H
                     have c78b0 : ((Int.tmod (wrap64 (Int.tdiv t184 x12_2)) 2) == 1) = true := beq_iff_eq.mpr c78
                     have c78b1 : ((Int.tmod (wrap64 (Int.tdiv t184 x12_2)) 2) != 1) = false := bne_eq_false_iff_eq.mpr c78
                     clear c78
                     have HC79 := Aside0.mk H
                     clear H
                     go_upto_region 28 with (fail)
                     repeat (go_quiet (fail); go_upto_region 28 with (fail))
                     go_cut [118] (fun v118 wc => ∃ (kq : Nat) (x118_78 : Bool), v118 = .bool x118_78 ∧ Aside0 (spec_ReadLine.j2 kq t169 t183 t184 x11_2 x12_2 x118_78 0 0 0 0 0 0 0 (⟨#[]⟩ : ByteArray) 3 t183 x186002_2 x186003_2 x186004_2 0 0 (⟨#[]⟩ : ByteArray) = some (r1, r2, r3, r4, r5, r6, r7, r8)) ∧ Aside0 (kq ≤ k2) ∧ Aside0 (Kd.R Kd.string 9 wc w.heap.size (fun _ => True) (.slice (some ad178) t169.length co69) t169) ∧ Aside0 (wc.heap[gb167]? = some (.cells #[.int .i64 x168000_2, .int .i64 x168001_2, .int .i64 x168002_2, .int .i64 x168003_2, .int .i64 x168004_2, .int .i64 x168005_2, .int .u32 x168006_2, .string x168007_2] 64 (0, 0))) ∧ Aside0 (wc.heap[gb168]? = some (.cells #[.int .i64 0, .int .i64 0, .int .i64 0, .int .i64 0, .int .i64 0, .int .i64 0, .int .u32 0, .string (⟨#[]⟩ : ByteArray)] 64 (0, 0))) ∧ Aside0 (wc.heap[gb185]? = some (.cells #[.int .i64 3, .int .i64 t183, .int .i64 x186002_2, .int .i64 x186003_2, .int .i64 x186004_2, .int .i64 0, .int .u32 0, .string (⟨#[]⟩ : ByteArray)] 64 (0, 0))) ∧ Aside0 (Below w.heap.size w wc))
                     case first =>
                      have H := HC79.out
                      clear HC79
                      by_cases c80 : x11_2 ≥ (t169.length : Int)
                      · rw [if_pos c80] at H
                        have c80b0 : decide ((t169.length : Int) ≤ x11_2) = true := decide_eq_true c80
                        clear c80
                        (first | rw [c80b0] | (simp only [i64_w, i32_w]; rw [c80b0]) | skip)
                        have H' := Aside0.mk H
                        clear H
                        go_wp2
                        repeat (go_quiet (fail); try go_wp2)
                        go_meet
                        case rel => exact ⟨_, (true), (by first | rfl | (simp; done) | (simp [*]; done)), H', ⟨by have := HJ8.out; have := HK2.out; first | omega | exact Nat.le_refl _⟩, ⟨by (with_reducible repeat (first | apply Kd.R_alloc | apply Kd.R_drewN | apply Kd.R_drew)); exact HO_4.out⟩, ⟨by (with_reducible repeat (first | refine blk_drewN ?_ _ | refine blk_drew ?_ | refine blk_alloc ?_ _)); exact BK167.out⟩, ⟨by (with_reducible repeat (first | refine blk_drewN ?_ _ | refine blk_drew ?_ | refine blk_alloc ?_ _)); exact BK168.out⟩, ⟨by (with_reducible repeat (first | refine blk_drewN ?_ _ | refine blk_drew ?_ | refine blk_alloc ?_ _)); exact BK185.out⟩, ⟨by repeat (first | (with_reducible first | exact HB.out | apply below_alloc | apply pw_below_drewN | apply below_drew1 | refine below_set ?_ GE167.out | refine below_set ?_ GE168.out | refine below_set ?_ GE185.out) | exact HB.out)⟩⟩
                      · rw [if_neg c80] at H
                        have c80b0 : decide ((t169.length : Int) ≤ x11_2) = false := decide_eq_false c80
                        clear c80
                        (first | rw [c80b0] | (simp only [i64_w, i32_w]; rw [c80b0]) | skip)
                        by_cases c81 : 0 ≤ x11_2
                        · rw [if_pos c81] at H
                          have c81b0 : decide (0 ≤ x11_2) = true := decide_eq_true c81
                          clear c81
                          by_cases c82 : x11_2 < (t169.length : Int)
                          · rw [if_pos c82] at H
                            have c82b0 : decide (x11_2 < (t169.length : Int)) = true := decide_eq_true c82
                            clear c82
                            replace H := Option.bind_eq_some_iff.mp H
                            obtain ⟨t187, A830, H⟩ := H
                            replace H : (spec_ReadLine.j2 k2 t169 t183 t184 x11_2 x12_2 (decide (t187 < 0)) 0 0 0 0 0 0 0 (⟨#[]⟩ : ByteArray) 3 t183 x186002_2 x186003_2 x186004_2 0 0 (⟨#[]⟩ : ByteArray)) = some (r1, r2, r3, r4, r5, r6, r7, r8) := H
                            have A83 := Aside0.mk A830
                            clear A830
                            have H' := Aside0.mk H
                            clear H
                            have p186 : 0 ≤ (x11_2 : Int) := of_decide_eq_true (by first | (with_reducible assumption) | assumption)
                            have q186 : x11_2 < (t169.length : Int) := of_decide_eq_true (by first | (with_reducible assumption) | assumption)
                            obtain ⟨ad186, e186, hx186_0⟩ := Kd.at_string (Kd.R_reads' HO_4.out).2.2 x11_2 p186 q186
                            obtain rfl : ad178 = ad186 := (by injection e186)
                            replace p186 := eq_true p186
                            replace q186 := eq_true q186
                            go_wp2_with (first | (go_at_call 73; (with_reducible refine (spec_l03Reg.calls k2 (rdOf ByteArray.empty t169 x11_2) t187 _ A83.out).mono ?_); rintro e w' ⟨rfl, ⟨nd, rfl⟩⟩; (try first | exact ⟨rfl, _, World.drewN_drewN _ _ _⟩ | exact ⟨rfl, _, Eq.trans (World.drewN_drewN _ _ _) (congrArg (World.drewN _) (Nat.add_assoc _ _ _))⟩)))
                            go_meet
                            case rel => exact ⟨_, (decide (t187 < 0)), (by first | rfl | (simp; done) | (simp [*]; done)), H', ⟨by have := HJ8.out; have := HK2.out; first | omega | exact Nat.le_refl _⟩, ⟨by (with_reducible repeat (first | apply Kd.R_alloc | apply Kd.R_drewN | apply Kd.R_drew)); exact HO_4.out⟩, ⟨by (with_reducible repeat (first | refine blk_drewN ?_ _ | refine blk_drew ?_ | refine blk_alloc ?_ _)); exact BK167.out⟩, ⟨by (with_reducible repeat (first | refine blk_drewN ?_ _ | refine blk_drew ?_ | refine blk_alloc ?_ _)); exact BK168.out⟩, ⟨by (with_reducible repeat (first | refine blk_drewN ?_ _ | refine blk_drew ?_ | refine blk_alloc ?_ _)); exact BK185.out⟩, ⟨by repeat (first | (with_reducible first | exact HB.out | apply below_alloc | apply pw_below_drewN | apply below_drew1 | refine below_set ?_ GE167.out | refine below_set ?_ GE168.out | refine below_set ?_ GE185.out) | exact HB.out)⟩⟩
                          · rw [if_neg c82] at H
                            exact absurd H (by simp)
                        · rw [if_neg c81] at H
                          exact absurd H (by simp)
                     case rest =>
                      clear HC79
                      try clear c1
                      try clear p1
                      try clear q1
                      try clear hx1
                      try clear qi1
                      try clear c2
                      try clear c2b0
                      try clear c2b1
                      try clear p2
                      try clear q2
                      try clear hx2
                      try clear c3
                      try clear c4
                      try clear c5
                      try clear c6
                      try clear p6
                      try clear c7
                      try clear c8
                      try clear c12
                      try clear c15
                      try clear c15b0
                      try clear c15b1
                      try clear c16
                      try clear c16b0
                      try clear c16b1
                      try clear c17
                      try clear c17b0
                      try clear c17b1
                      try clear p17
                      try clear q17
                      try clear hx17
                      try clear qi17
                      try clear p18
                      try clear q18
                      try clear hx18
                      try clear qi18
                      try clear c19
                      try clear c19b0
                      try clear c20
                      try clear c20b0
                      try clear p21
                      try clear q21
                      try clear hx21
                      try clear c25
                      try clear c26
                      try clear c26b0
                      try clear c26b1
                      try clear c28
                      try clear c28b0
                      try clear c28b1
                      try clear c29
                      try clear c29b0
                      try clear c29b1
                      try clear c31
                      try clear c33
                      try clear c36
                      try clear c39
                      try clear c39b0
                      try clear c39b1
                      try clear c40
                      try clear c40b0
                      try clear c40b1
                      try clear c41
                      try clear c41b0
                      try clear c41b1
                      try clear c42
                      try clear c42b0
                      try clear c42b1
                      try clear c44
                      try clear c45
                      try clear c45b0
                      try clear c47
                      try clear c51
                      try clear c54
                      try clear c58
                      try clear c62
                      try clear c62b0
                      try clear p64
                      try clear c65
                      try clear c73
                      try clear c74
                      try clear c76
                      try clear c76b0
                      try clear c77
                      try clear c77b0
                      try clear c77b1
                      try clear c78
                      try clear c78b0
                      try clear c78b1
                      try clear c80
                      try clear c80b0
                      try clear c81
                      try clear c81b0
                      try clear c82
                      try clear c82b0
                      try clear hx172_0
                      try clear hx173_0
                      try clear hx174_0
                      try clear hx175_0
                      try clear hx176_0
                      try clear hx178_0
                      try clear hx179_0
                      try clear hx182_0
                      try clear hx186_0
                      try clear p1
                      try clear p17
                      try clear p172
                      try clear p173
                      try clear p174
                      try clear p175
                      try clear p176
                      try clear p178
                      try clear p179
                      try clear p18
                      try clear p182
                      try clear p186
                      try clear p2
                      try clear p21
                      try clear p6
                      try clear p64
                      try clear q1
                      try clear q17
                      try clear q172
                      try clear q173
                      try clear q174
                      try clear q175
                      try clear q176
                      try clear q178
                      try clear q179
                      try clear q18
                      try clear q182
                      try clear q186
                      try clear q2
                      try clear q21
                      obtain ⟨kq, x118_78, rfl, HA, HJ78, HO_4, BK167, BK168, BK185, HB⟩ := hcut
                      cases kq with
                      | zero => exact absurd HA.out (by simp [spec_ReadLine.j2])
                      | succ kj78 =>
                       have H := HA.out
                       clear HA
                       simp only [spec_ReadLine.j2] at H
                       by_cases c84 : x118_78 = true
                       · subst c84
                         have H1 : (some (0, 0, 0, 0, 0, 0, 0, (⟨#[]⟩ : ByteArray))) = some (r1, r2, r3, r4, r5, r6, r7, r8) := by rw [if_pos rfl] at H; exact H
                         clear H
                         have H := H1
                         clear H1
                         simp only [Option.some.injEq, Prod.mk.injEq] at H
                         obtain ⟨rfl, rfl, rfl, rfl, rfl, rfl, rfl, rfl⟩ := H
                         have hnb85 := NB168_167.out
                         have hnc85 := NB167_168.out
                         have hnb86 := NB168_185.out
                         have hnc86 := NB185_168.out
                         have hcz87_0 : wc.cell? ⟨gb168, 0, none⟩ = some (.int .i64 0) := (blk_cell BK168.out 0).trans rfl
                         have hcz87_1 : wc.cell? ⟨gb168, 1, none⟩ = some (.int .i64 0) := (blk_cell BK168.out 1).trans rfl
                         have hcz87_2 : wc.cell? ⟨gb168, 2, none⟩ = some (.int .i64 0) := (blk_cell BK168.out 2).trans rfl
                         have hcz87_3 : wc.cell? ⟨gb168, 3, none⟩ = some (.int .i64 0) := (blk_cell BK168.out 3).trans rfl
                         have hcz87_4 : wc.cell? ⟨gb168, 4, none⟩ = some (.int .i64 0) := (blk_cell BK168.out 4).trans rfl
                         have hcz87_5 : wc.cell? ⟨gb168, 5, none⟩ = some (.int .i64 0) := (blk_cell BK168.out 5).trans rfl
                         have hcz87_6 : wc.cell? ⟨gb168, 6, none⟩ = some (.int .u32 0) := (blk_cell BK168.out 6).trans rfl
                         have hcz87_7 : wc.cell? ⟨gb168, 7, none⟩ = some (.string (⟨#[]⟩ : ByteArray)) := (blk_cell BK168.out 7).trans rfl
                         have hfz87_0 := blk_frozen BK168.out 0
                         have hfz87_1 := blk_frozen BK168.out 1
                         have hfz87_2 := blk_frozen BK168.out 2
                         have hfz87_3 := blk_frozen BK168.out 3
                         have hfz87_4 := blk_frozen BK168.out 4
                         have hfz87_5 := blk_frozen BK168.out 5
                         have hfz87_6 := blk_frozen BK168.out 6
                         have hfz87_7 := blk_frozen BK168.out 7
                         have hnb88 := NB167_185.out
                         have hnc88 := NB185_167.out
                         have hcz89_0 : wc.cell? ⟨gb167, 0, none⟩ = some (.int .i64 x168000_2) := (blk_cell BK167.out 0).trans rfl
                         have hcz89_1 : wc.cell? ⟨gb167, 1, none⟩ = some (.int .i64 x168001_2) := (blk_cell BK167.out 1).trans rfl
                         have hcz89_2 : wc.cell? ⟨gb167, 2, none⟩ = some (.int .i64 x168002_2) := (blk_cell BK167.out 2).trans rfl
                         have hcz89_3 : wc.cell? ⟨gb167, 3, none⟩ = some (.int .i64 x168003_2) := (blk_cell BK167.out 3).trans rfl
                         have hcz89_4 : wc.cell? ⟨gb167, 4, none⟩ = some (.int .i64 x168004_2) := (blk_cell BK167.out 4).trans rfl
                         have hcz89_5 : wc.cell? ⟨gb167, 5, none⟩ = some (.int .i64 x168005_2) := (blk_cell BK167.out 5).trans rfl
                         have hcz89_6 : wc.cell? ⟨gb167, 6, none⟩ = some (.int .u32 x168006_2) := (blk_cell BK167.out 6).trans rfl
                         have hcz89_7 : wc.cell? ⟨gb167, 7, none⟩ = some (.string x168007_2) := (blk_cell BK167.out 7).trans rfl
                         have hfz89_0 := blk_frozen BK167.out 0
                         have hfz89_1 := blk_frozen BK167.out 1
                         have hfz89_2 := blk_frozen BK167.out 2
                         have hfz89_3 := blk_frozen BK167.out 3
                         have hfz89_4 := blk_frozen BK167.out 4
                         have hfz89_5 := blk_frozen BK167.out 5
                         have hfz89_6 := blk_frozen BK167.out 6
                         have hfz89_7 := blk_frozen BK167.out 7
                         go_wp2
                         repeat (go_quiet (fail); try go_wp2)
                         refine bodyPost_ret (results_cell_row rfl _ _ gb167 64 #[.int .i64 0, .int .i64 0, .int .i64 0, .int .i64 0, .int .i64 0, .int .i64 0, .int .u32 0, .string (⟨#[]⟩ : ByteArray)] (0, 0) _ rfl (by (with_reducible repeat (first | refine blk_drewN ?_ _ | refine blk_drew ?_ | refine blk_alloc ?_ _)); refine blk_put (cs := #[.int .i64 0, .int .i64 0, .int .i64 0, .int .i64 0, .int .i64 0, .int .i64 0, .int .u32 0, .string x168007_2]) ?_ 7 _ rfl; refine blk_put (cs := #[.int .i64 0, .int .i64 0, .int .i64 0, .int .i64 0, .int .i64 0, .int .i64 0, .int .u32 x168006_2, .string x168007_2]) ?_ 6 _ rfl; refine blk_put (cs := #[.int .i64 0, .int .i64 0, .int .i64 0, .int .i64 0, .int .i64 0, .int .i64 x168005_2, .int .u32 x168006_2, .string x168007_2]) ?_ 5 _ rfl; refine blk_put (cs := #[.int .i64 0, .int .i64 0, .int .i64 0, .int .i64 0, .int .i64 x168004_2, .int .i64 x168005_2, .int .u32 x168006_2, .string x168007_2]) ?_ 4 _ rfl; refine blk_put (cs := #[.int .i64 0, .int .i64 0, .int .i64 0, .int .i64 x168003_2, .int .i64 x168004_2, .int .i64 x168005_2, .int .u32 x168006_2, .string x168007_2]) ?_ 3 _ rfl; refine blk_put (cs := #[.int .i64 0, .int .i64 0, .int .i64 x168002_2, .int .i64 x168003_2, .int .i64 x168004_2, .int .i64 x168005_2, .int .u32 x168006_2, .string x168007_2]) ?_ 2 _ rfl; refine blk_put (cs := #[.int .i64 0, .int .i64 x168001_2, .int .i64 x168002_2, .int .i64 x168003_2, .int .i64 x168004_2, .int .i64 x168005_2, .int .u32 x168006_2, .string x168007_2]) ?_ 1 _ rfl; refine blk_put (cs := #[.int .i64 x168000_2, .int .i64 x168001_2, .int .i64 x168002_2, .int .i64 x168003_2, .int .i64 x168004_2, .int .i64 x168005_2, .int .u32 x168006_2, .string x168007_2]) ?_ 0 _ rfl; (with_reducible repeat (first | refine blk_drewN ?_ _ | refine blk_drew ?_ | refine blk_alloc ?_ _)); exact BK167.out) Tryz.underlying64 rfl (by kernel_rfl)) rfl ?_
                         exact ⟨by first | rfl | (simp [errW_none, errW_some] <;> rfl) | (simp [*, errW_none, errW_some] <;> rfl), by repeat (first | (with_reducible first | exact HB.out | apply below_alloc | apply pw_below_drewN | apply below_drew1 | refine below_set ?_ GE167.out | refine below_set ?_ GE168.out | refine below_set ?_ GE185.out) | exact HB.out)⟩
                       · replace c84 := Bool.eq_false_iff.mpr c84
                         subst c84
                         have H1 : (if 0 ≤ x11_2 then (if x11_2 < (t169.length : Int) then ((spec_l03Reg.f kj78 (rdOf ByteArray.empty t169 x11_2)).bind fun t189 => (if x12_2 = 1 then (spec_ReadLine.l0 kj78 t169 t183 t184 (wrap64 (x11_2 + 1)) (wrap64 (2 * x12_2)) 0 0 0 0 0 0 0 (⟨#[]⟩ : ByteArray) 3 t183 t189 x186003_2 x186004_2 0 0 (⟨#[]⟩ : ByteArray)) else (if x12_2 = 2 then (spec_ReadLine.l0 kj78 t169 t183 t184 (wrap64 (x11_2 + 1)) (wrap64 (2 * x12_2)) 0 0 0 0 0 0 0 (⟨#[]⟩ : ByteArray) 3 t183 x186002_2 t189 x186004_2 0 0 (⟨#[]⟩ : ByteArray)) else (spec_ReadLine.l0 kj78 t169 t183 t184 (wrap64 (x11_2 + 1)) (wrap64 (2 * x12_2)) 0 0 0 0 0 0 0 (⟨#[]⟩ : ByteArray) 3 t183 x186002_2 x186003_2 t189 0 0 (⟨#[]⟩ : ByteArray))))) else (none)) else (none)) = some (r1, r2, r3, r4, r5, r6, r7, r8) := by rw [if_neg (show ¬ (false = true) by decide)] at H; exact H
                         clear H
                         have H := H1
                         clear H1
                         by_cases c90 : 0 ≤ x11_2
                         · rw [if_pos c90] at H
                           have c90b0 : decide (0 ≤ x11_2) = true := decide_eq_true c90
                           clear c90
                           by_cases c91 : x11_2 < (t169.length : Int)
                           · rw [if_pos c91] at H
                             have c91b0 : decide (x11_2 < (t169.length : Int)) = true := decide_eq_true c91
                             clear c91
                             replace H := Option.bind_eq_some_iff.mp H
                             obtain ⟨t189, A920, H⟩ := H
                             replace H : (if x12_2 = 1 then (spec_ReadLine.l0 kj78 t169 t183 t184 (wrap64 (x11_2 + 1)) (wrap64 (2 * x12_2)) 0 0 0 0 0 0 0 (⟨#[]⟩ : ByteArray) 3 t183 t189 x186003_2 x186004_2 0 0 (⟨#[]⟩ : ByteArray)) else (if x12_2 = 2 then (spec_ReadLine.l0 kj78 t169 t183 t184 (wrap64 (x11_2 + 1)) (wrap64 (2 * x12_2)) 0 0 0 0 0 0 0 (⟨#[]⟩ : ByteArray) 3 t183 x186002_2 t189 x186004_2 0 0 (⟨#[]⟩ : ByteArray)) else (spec_ReadLine.l0 kj78 t169 t183 t184 (wrap64 (x11_2 + 1)) (wrap64 (2 * x12_2)) 0 0 0 0 0 0 0 (⟨#[]⟩ : ByteArray) 3 t183 x186002_2 x186003_2 t189 0 0 (⟨#[]⟩ : ByteArray)))) = some (r1, r2, r3, r4, r5, r6, r7, r8) := H
                             have A92 := Aside0.mk A920
                             clear A920
                             by_cases c93 : x12_2 = 1
                             · rw [if_pos c93] at H
                               have c93b0 : (x12_2 == 1) = true := beq_iff_eq.mpr c93
                               have c93b1 : (x12_2 != 1) = false := bne_eq_false_iff_eq.mpr c93
                               clear c93
                               have H' := Aside0.mk H
                               clear H
                               have p188 : 0 ≤ (x11_2 : Int) := of_decide_eq_true (by first | (with_reducible assumption) | assumption)
                               have q188 : x11_2 < (t169.length : Int) := of_decide_eq_true (by first | (with_reducible assumption) | assumption)
                               obtain ⟨ad188, e188, hx188_0⟩ := Kd.at_string (Kd.R_reads' HO_4.out).2.2 x11_2 p188 q188
                               obtain rfl : ad178 = ad188 := (by injection e188)
                               replace p188 := eq_true p188
                               replace q188 := eq_true q188
                               go_wp2_with (first | (go_at_call 73; (with_reducible refine (spec_l03Reg.calls kj78 (rdOf ByteArray.empty t169 x11_2) t189 _ A92.out).mono ?_); rintro e w' ⟨rfl, ⟨nd, rfl⟩⟩; (try first | exact ⟨rfl, _, World.drewN_drewN _ _ _⟩ | exact ⟨rfl, _, Eq.trans (World.drewN_drewN _ _ _) (congrArg (World.drewN _) (Nat.add_assoc _ _ _))⟩); have hnb94 := NB185_167.out; have hnc94 := NB167_185.out; have hnb95 := NB185_168.out; have hnc95 := NB168_185.out; have hcz96_0 : wc.cell? ⟨gb185, 0, none⟩ = some (.int .i64 3) := (blk_cell BK185.out 0).trans rfl; have hcz96_1 : wc.cell? ⟨gb185, 1, none⟩ = some (.int .i64 t183) := (blk_cell BK185.out 1).trans rfl; have hcz96_2 : wc.cell? ⟨gb185, 2, none⟩ = some (.int .i64 x186002_2) := (blk_cell BK185.out 2).trans rfl; have hcz96_3 : wc.cell? ⟨gb185, 3, none⟩ = some (.int .i64 x186003_2) := (blk_cell BK185.out 3).trans rfl; have hcz96_4 : wc.cell? ⟨gb185, 4, none⟩ = some (.int .i64 x186004_2) := (blk_cell BK185.out 4).trans rfl; have hcz96_5 : wc.cell? ⟨gb185, 5, none⟩ = some (.int .i64 0) := (blk_cell BK185.out 5).trans rfl; have hcz96_6 : wc.cell? ⟨gb185, 6, none⟩ = some (.int .u32 0) := (blk_cell BK185.out 6).trans rfl; have hcz96_7 : wc.cell? ⟨gb185, 7, none⟩ = some (.string (⟨#[]⟩ : ByteArray)) := (blk_cell BK185.out 7).trans rfl; have hfz96_0 := blk_frozen BK185.out 0; have hfz96_1 := blk_frozen BK185.out 1; have hfz96_2 := blk_frozen BK185.out 2; have hfz96_3 := blk_frozen BK185.out 3; have hfz96_4 := blk_frozen BK185.out 4; have hfz96_5 := blk_frozen BK185.out 5; have hfz96_6 := blk_frozen BK185.out 6; have hfz96_7 := blk_frozen BK185.out 7))
                               go_roundg kj78
                               case measure => have := HJ8.out; have := HK2.out; have := HJ78.out; omega
                               case rel => exact ⟨(wrap64 (x11_2 + 1)), (wrap64 (2 * x12_2)), (x168000_2), (x168001_2), (x168002_2), (x168003_2), (x168004_2), (x168005_2), (x168006_2), (x168007_2), (t189), (x186003_2), (x186004_2), (by first | rfl | (simp; done) | (simp [*]; done)), (by first | rfl | (simp; done) | (simp [*]; done)), H', ⟨by have := HJ8.out; have := HK2.out; have := HJ78.out; omega⟩, ⟨by (with_reducible repeat (first | apply Kd.R_alloc | apply Kd.R_drewN | apply Kd.R_drew)); exact Kd.R_mono (Kd.R_far (p := ⟨gb185, 2, none⟩) (Kd.R_types HO_4.out BK185.out (by decide)) (fun _ hk => hk.2) (.int .i64 t189)) (fun _ hk => trivial)⟩, ⟨by (with_reducible repeat (first | refine blk_drewN ?_ _ | refine blk_drew ?_ | refine blk_alloc ?_ _)); refine blk_far ?_ NB167_185.out _; (with_reducible repeat (first | refine blk_drewN ?_ _ | refine blk_drew ?_ | refine blk_alloc ?_ _)); exact BK167.out⟩, ⟨by (with_reducible repeat (first | refine blk_drewN ?_ _ | refine blk_drew ?_ | refine blk_alloc ?_ _)); refine blk_far ?_ NB168_185.out _; (with_reducible repeat (first | refine blk_drewN ?_ _ | refine blk_drew ?_ | refine blk_alloc ?_ _)); exact BK168.out⟩, ⟨by (with_reducible repeat (first | refine blk_drewN ?_ _ | refine blk_drew ?_ | refine blk_alloc ?_ _)); refine blk_put (cs := #[.int .i64 3, .int .i64 t183, .int .i64 x186002_2, .int .i64 x186003_2, .int .i64 x186004_2, .int .i64 0, .int .u32 0, .string (⟨#[]⟩ : ByteArray)]) ?_ 2 _ rfl; (with_reducible repeat (first | refine blk_drewN ?_ _ | refine blk_drew ?_ | refine blk_alloc ?_ _)); exact BK185.out⟩, ⟨by repeat (first | (with_reducible first | exact HB.out | apply below_alloc | apply pw_below_drewN | apply below_drew1 | refine below_set ?_ GE167.out | refine below_set ?_ GE168.out | refine below_set ?_ GE185.out) | exact HB.out)⟩⟩
                             · rw [if_neg c93] at H
                               have c93b0 : (x12_2 == 1) = false := beq_eq_false_iff_ne.mpr c93
                               have c93b1 : (x12_2 != 1) = true := bne_iff_ne.mpr c93
                               by_cases c97 : x12_2 = 2
                               · rw [if_pos c97] at H
                                 have c97b0 : (x12_2 == 2) = true := beq_iff_eq.mpr c97
                                 have c97b1 : (x12_2 != 2) = false := bne_eq_false_iff_eq.mpr c97
                                 clear c97
                                 have H' := Aside0.mk H
                                 clear H
                                 have p188 : 0 ≤ (x11_2 : Int) := of_decide_eq_true (by first | (with_reducible assumption) | assumption)
                                 have q188 : x11_2 < (t169.length : Int) := of_decide_eq_true (by first | (with_reducible assumption) | assumption)
                                 obtain ⟨ad188, e188, hx188_0⟩ := Kd.at_string (Kd.R_reads' HO_4.out).2.2 x11_2 p188 q188
                                 obtain rfl : ad178 = ad188 := (by injection e188)
                                 replace p188 := eq_true p188
                                 replace q188 := eq_true q188
                                 go_wp2_with (first | (go_at_call 73; (with_reducible refine (spec_l03Reg.calls kj78 (rdOf ByteArray.empty t169 x11_2) t189 _ A92.out).mono ?_); rintro e w' ⟨rfl, ⟨nd, rfl⟩⟩; (try first | exact ⟨rfl, _, World.drewN_drewN _ _ _⟩ | exact ⟨rfl, _, Eq.trans (World.drewN_drewN _ _ _) (congrArg (World.drewN _) (Nat.add_assoc _ _ _))⟩); have hnb98 := NB185_167.out; have hnc98 := NB167_185.out; have hnb99 := NB185_168.out; have hnc99 := NB168_185.out; have hcz100_0 : wc.cell? ⟨gb185, 0, none⟩ = some (.int .i64 3) := (blk_cell BK185.out 0).trans rfl; have hcz100_1 : wc.cell? ⟨gb185, 1, none⟩ = some (.int .i64 t183) := (blk_cell BK185.out 1).trans rfl; have hcz100_2 : wc.cell? ⟨gb185, 2, none⟩ = some (.int .i64 x186002_2) := (blk_cell BK185.out 2).trans rfl; have hcz100_3 : wc.cell? ⟨gb185, 3, none⟩ = some (.int .i64 x186003_2) := (blk_cell BK185.out 3).trans rfl; have hcz100_4 : wc.cell? ⟨gb185, 4, none⟩ = some (.int .i64 x186004_2) := (blk_cell BK185.out 4).trans rfl; have hcz100_5 : wc.cell? ⟨gb185, 5, none⟩ = some (.int .i64 0) := (blk_cell BK185.out 5).trans rfl; have hcz100_6 : wc.cell? ⟨gb185, 6, none⟩ = some (.int .u32 0) := (blk_cell BK185.out 6).trans rfl; have hcz100_7 : wc.cell? ⟨gb185, 7, none⟩ = some (.string (⟨#[]⟩ : ByteArray)) := (blk_cell BK185.out 7).trans rfl; have hfz100_0 := blk_frozen BK185.out 0; have hfz100_1 := blk_frozen BK185.out 1; have hfz100_2 := blk_frozen BK185.out 2; have hfz100_3 := blk_frozen BK185.out 3; have hfz100_4 := blk_frozen BK185.out 4; have hfz100_5 := blk_frozen BK185.out 5; have hfz100_6 := blk_frozen BK185.out 6; have hfz100_7 := blk_frozen BK185.out 7))
                                 go_roundg kj78
                                 case measure => have := HJ8.out; have := HK2.out; have := HJ78.out; omega
                                 case rel => exact ⟨(wrap64 (x11_2 + 1)), (wrap64 (2 * x12_2)), (x168000_2), (x168001_2), (x168002_2), (x168003_2), (x168004_2), (x168005_2), (x168006_2), (x168007_2), (x186002_2), (t189), (x186004_2), (by first | rfl | (simp; done) | (simp [*]; done)), (by first | rfl | (simp; done) | (simp [*]; done)), H', ⟨by have := HJ8.out; have := HK2.out; have := HJ78.out; omega⟩, ⟨by (with_reducible repeat (first | apply Kd.R_alloc | apply Kd.R_drewN | apply Kd.R_drew)); exact Kd.R_mono (Kd.R_far (p := ⟨gb185, 3, none⟩) (Kd.R_types HO_4.out BK185.out (by decide)) (fun _ hk => hk.2) (.int .i64 t189)) (fun _ hk => trivial)⟩, ⟨by (with_reducible repeat (first | refine blk_drewN ?_ _ | refine blk_drew ?_ | refine blk_alloc ?_ _)); refine blk_far ?_ NB167_185.out _; (with_reducible repeat (first | refine blk_drewN ?_ _ | refine blk_drew ?_ | refine blk_alloc ?_ _)); exact BK167.out⟩, ⟨by (with_reducible repeat (first | refine blk_drewN ?_ _ | refine blk_drew ?_ | refine blk_alloc ?_ _)); refine blk_far ?_ NB168_185.out _; (with_reducible repeat (first | refine blk_drewN ?_ _ | refine blk_drew ?_ | refine blk_alloc ?_ _)); exact BK168.out⟩, ⟨by (with_reducible repeat (first | refine blk_drewN ?_ _ | refine blk_drew ?_ | refine blk_alloc ?_ _)); refine blk_put (cs := #[.int .i64 3, .int .i64 t183, .int .i64 x186002_2, .int .i64 x186003_2, .int .i64 x186004_2, .int .i64 0, .int .u32 0, .string (⟨#[]⟩ : ByteArray)]) ?_ 3 _ rfl; (with_reducible repeat (first | refine blk_drewN ?_ _ | refine blk_drew ?_ | refine blk_alloc ?_ _)); exact BK185.out⟩, ⟨by repeat (first | (with_reducible first | exact HB.out | apply below_alloc | apply pw_below_drewN | apply below_drew1 | refine below_set ?_ GE167.out | refine below_set ?_ GE168.out | refine below_set ?_ GE185.out) | exact HB.out)⟩⟩
                               · rw [if_neg c97] at H
                                 have c97b0 : (x12_2 == 2) = false := beq_eq_false_iff_ne.mpr c97
                                 have c97b1 : (x12_2 != 2) = true := bne_iff_ne.mpr c97
                                 have H' := Aside0.mk H
                                 clear H
                                 have p188 : 0 ≤ (x11_2 : Int) := of_decide_eq_true (by first | (with_reducible assumption) | assumption)
                                 have q188 : x11_2 < (t169.length : Int) := of_decide_eq_true (by first | (with_reducible assumption) | assumption)
                                 obtain ⟨ad188, e188, hx188_0⟩ := Kd.at_string (Kd.R_reads' HO_4.out).2.2 x11_2 p188 q188
                                 obtain rfl : ad178 = ad188 := (by injection e188)
                                 replace p188 := eq_true p188
                                 replace q188 := eq_true q188
                                 go_wp2_with (first | (go_at_call 73; (with_reducible refine (spec_l03Reg.calls kj78 (rdOf ByteArray.empty t169 x11_2) t189 _ A92.out).mono ?_); rintro e w' ⟨rfl, ⟨nd, rfl⟩⟩; (try first | exact ⟨rfl, _, World.drewN_drewN _ _ _⟩ | exact ⟨rfl, _, Eq.trans (World.drewN_drewN _ _ _) (congrArg (World.drewN _) (Nat.add_assoc _ _ _))⟩); have hnb101 := NB185_167.out; have hnc101 := NB167_185.out; have hnb102 := NB185_168.out; have hnc102 := NB168_185.out; have hcz103_0 : wc.cell? ⟨gb185, 0, none⟩ = some (.int .i64 3) := (blk_cell BK185.out 0).trans rfl; have hcz103_1 : wc.cell? ⟨gb185, 1, none⟩ = some (.int .i64 t183) := (blk_cell BK185.out 1).trans rfl; have hcz103_2 : wc.cell? ⟨gb185, 2, none⟩ = some (.int .i64 x186002_2) := (blk_cell BK185.out 2).trans rfl; have hcz103_3 : wc.cell? ⟨gb185, 3, none⟩ = some (.int .i64 x186003_2) := (blk_cell BK185.out 3).trans rfl; have hcz103_4 : wc.cell? ⟨gb185, 4, none⟩ = some (.int .i64 x186004_2) := (blk_cell BK185.out 4).trans rfl; have hcz103_5 : wc.cell? ⟨gb185, 5, none⟩ = some (.int .i64 0) := (blk_cell BK185.out 5).trans rfl; have hcz103_6 : wc.cell? ⟨gb185, 6, none⟩ = some (.int .u32 0) := (blk_cell BK185.out 6).trans rfl; have hcz103_7 : wc.cell? ⟨gb185, 7, none⟩ = some (.string (⟨#[]⟩ : ByteArray)) := (blk_cell BK185.out 7).trans rfl; have hfz103_0 := blk_frozen BK185.out 0; have hfz103_1 := blk_frozen BK185.out 1; have hfz103_2 := blk_frozen BK185.out 2; have hfz103_3 := blk_frozen BK185.out 3; have hfz103_4 := blk_frozen BK185.out 4; have hfz103_5 := blk_frozen BK185.out 5; have hfz103_6 := blk_frozen BK185.out 6; have hfz103_7 := blk_frozen BK185.out 7))
                                 go_roundg kj78
                                 case measure => have := HJ8.out; have := HK2.out; have := HJ78.out; omega
                                 case rel => exact ⟨(wrap64 (x11_2 + 1)), (wrap64 (2 * x12_2)), (x168000_2), (x168001_2), (x168002_2), (x168003_2), (x168004_2), (x168005_2), (x168006_2), (x168007_2), (x186002_2), (x186003_2), (t189), (by first | rfl | (simp; done) | (simp [*]; done)), (by first | rfl | (simp; done) | (simp [*]; done)), H', ⟨by have := HJ8.out; have := HK2.out; have := HJ78.out; omega⟩, ⟨by (with_reducible repeat (first | apply Kd.R_alloc | apply Kd.R_drewN | apply Kd.R_drew)); exact Kd.R_mono (Kd.R_far (p := ⟨gb185, 4, none⟩) (Kd.R_types HO_4.out BK185.out (by decide)) (fun _ hk => hk.2) (.int .i64 t189)) (fun _ hk => trivial)⟩, ⟨by (with_reducible repeat (first | refine blk_drewN ?_ _ | refine blk_drew ?_ | refine blk_alloc ?_ _)); refine blk_far ?_ NB167_185.out _; (with_reducible repeat (first | refine blk_drewN ?_ _ | refine blk_drew ?_ | refine blk_alloc ?_ _)); exact BK167.out⟩, ⟨by (with_reducible repeat (first | refine blk_drewN ?_ _ | refine blk_drew ?_ | refine blk_alloc ?_ _)); refine blk_far ?_ NB168_185.out _; (with_reducible repeat (first | refine blk_drewN ?_ _ | refine blk_drew ?_ | refine blk_alloc ?_ _)); exact BK168.out⟩, ⟨by (with_reducible repeat (first | refine blk_drewN ?_ _ | refine blk_drew ?_ | refine blk_alloc ?_ _)); refine blk_put (cs := #[.int .i64 3, .int .i64 t183, .int .i64 x186002_2, .int .i64 x186003_2, .int .i64 x186004_2, .int .i64 0, .int .u32 0, .string (⟨#[]⟩ : ByteArray)]) ?_ 4 _ rfl; (with_reducible repeat (first | refine blk_drewN ?_ _ | refine blk_drew ?_ | refine blk_alloc ?_ _)); exact BK185.out⟩, ⟨by repeat (first | (with_reducible first | exact HB.out | apply below_alloc | apply pw_below_drewN | apply below_drew1 | refine below_set ?_ GE167.out | refine below_set ?_ GE168.out | refine below_set ?_ GE185.out) | exact HB.out)⟩⟩
                           · rw [if_neg c91] at H
                             exact absurd H (by simp)
                         · rw [if_neg c90] at H
                           exact absurd H (by simp)
                   · rw [if_neg c78] at H
                     have c78b0 : ((Int.tmod (wrap64 (Int.tdiv t184 x12_2)) 2) == 1) = false := beq_eq_false_iff_ne.mpr c78
                     have c78b1 : ((Int.tmod (wrap64 (Int.tdiv t184 x12_2)) 2) != 1) = true := bne_iff_ne.mpr c78
                     have H' := Aside0.mk H
                     clear H
                     go_wp2
                     repeat (go_quiet (fail); try go_wp2)
                     go_roundg k2
                     case measure => have := HJ8.out; have := HK2.out; omega
                     case rel => exact ⟨(x11_2), (wrap64 (2 * x12_2)), (x168000_2), (x168001_2), (x168002_2), (x168003_2), (x168004_2), (x168005_2), (x168006_2), (x168007_2), (x186002_2), (x186003_2), (x186004_2), (by first | rfl | (simp; done) | (simp [*]; done)), (by first | rfl | (simp; done) | (simp [*]; done)), H', ⟨by have := HJ8.out; have := HK2.out; omega⟩, ⟨by (with_reducible repeat (first | apply Kd.R_alloc | apply Kd.R_drewN | apply Kd.R_drew)); exact HO_4.out⟩, ⟨by (with_reducible repeat (first | refine blk_drewN ?_ _ | refine blk_drew ?_ | refine blk_alloc ?_ _)); exact BK167.out⟩, ⟨by (with_reducible repeat (first | refine blk_drewN ?_ _ | refine blk_drew ?_ | refine blk_alloc ?_ _)); exact BK168.out⟩, ⟨by (with_reducible repeat (first | refine blk_drewN ?_ _ | refine blk_drew ?_ | refine blk_alloc ?_ _)); exact BK185.out⟩, ⟨by repeat (first | (with_reducible first | exact HB.out | apply below_alloc | apply pw_below_drewN | apply below_drew1 | refine below_set ?_ GE167.out | refine below_set ?_ GE168.out | refine below_set ?_ GE185.out) | exact HB.out)⟩⟩
               · rw [if_neg c76] at H
                 have c76b0 : decide (x12_2 ≤ 4) = false := decide_eq_false c76
                 clear c76
                 by_cases c104 : (Int.tmod (wrap64 (Int.tdiv t184 8)) 2) = 1
                 · rw [if_pos c104] at H
                   have c104b0 : ((Int.tmod (wrap64 (Int.tdiv t184 8)) 2) == 1) = true := beq_iff_eq.mpr c104
                   have c104b1 : ((Int.tmod (wrap64 (Int.tdiv t184 8)) 2) != 1) = false := bne_eq_false_iff_eq.mpr c104
                   clear c104
                   by_cases c105 : x11_2 ≥ (t169.length : Int)
                   · rw [if_pos c105] at H
                     have c105b0 : decide ((t169.length : Int) ≤ x11_2) = true := decide_eq_true c105
                     clear c105
                     simp only [Option.some.injEq, Prod.mk.injEq] at H
                     obtain ⟨rfl, rfl, rfl, rfl, rfl, rfl, rfl, rfl⟩ := H
                     have hnb106 := NB168_167.out
                     have hnc106 := NB167_168.out
                     have hnb107 := NB168_185.out
                     have hnc107 := NB185_168.out
                     have hcz108_0 : wr.cell? ⟨gb168, 0, none⟩ = some (.int .i64 0) := (blk_cell BK168.out 0).trans rfl
                     have hcz108_1 : wr.cell? ⟨gb168, 1, none⟩ = some (.int .i64 0) := (blk_cell BK168.out 1).trans rfl
                     have hcz108_2 : wr.cell? ⟨gb168, 2, none⟩ = some (.int .i64 0) := (blk_cell BK168.out 2).trans rfl
                     have hcz108_3 : wr.cell? ⟨gb168, 3, none⟩ = some (.int .i64 0) := (blk_cell BK168.out 3).trans rfl
                     have hcz108_4 : wr.cell? ⟨gb168, 4, none⟩ = some (.int .i64 0) := (blk_cell BK168.out 4).trans rfl
                     have hcz108_5 : wr.cell? ⟨gb168, 5, none⟩ = some (.int .i64 0) := (blk_cell BK168.out 5).trans rfl
                     have hcz108_6 : wr.cell? ⟨gb168, 6, none⟩ = some (.int .u32 0) := (blk_cell BK168.out 6).trans rfl
                     have hcz108_7 : wr.cell? ⟨gb168, 7, none⟩ = some (.string (⟨#[]⟩ : ByteArray)) := (blk_cell BK168.out 7).trans rfl
                     have hfz108_0 := blk_frozen BK168.out 0
                     have hfz108_1 := blk_frozen BK168.out 1
                     have hfz108_2 := blk_frozen BK168.out 2
                     have hfz108_3 := blk_frozen BK168.out 3
                     have hfz108_4 := blk_frozen BK168.out 4
                     have hfz108_5 := blk_frozen BK168.out 5
                     have hfz108_6 := blk_frozen BK168.out 6
                     have hfz108_7 := blk_frozen BK168.out 7
                     have hnb109 := NB167_185.out
                     have hnc109 := NB185_167.out
                     have hcz110_0 : wr.cell? ⟨gb167, 0, none⟩ = some (.int .i64 x168000_2) := (blk_cell BK167.out 0).trans rfl
                     have hcz110_1 : wr.cell? ⟨gb167, 1, none⟩ = some (.int .i64 x168001_2) := (blk_cell BK167.out 1).trans rfl
                     have hcz110_2 : wr.cell? ⟨gb167, 2, none⟩ = some (.int .i64 x168002_2) := (blk_cell BK167.out 2).trans rfl
                     have hcz110_3 : wr.cell? ⟨gb167, 3, none⟩ = some (.int .i64 x168003_2) := (blk_cell BK167.out 3).trans rfl
                     have hcz110_4 : wr.cell? ⟨gb167, 4, none⟩ = some (.int .i64 x168004_2) := (blk_cell BK167.out 4).trans rfl
                     have hcz110_5 : wr.cell? ⟨gb167, 5, none⟩ = some (.int .i64 x168005_2) := (blk_cell BK167.out 5).trans rfl
                     have hcz110_6 : wr.cell? ⟨gb167, 6, none⟩ = some (.int .u32 x168006_2) := (blk_cell BK167.out 6).trans rfl
                     have hcz110_7 : wr.cell? ⟨gb167, 7, none⟩ = some (.string x168007_2) := (blk_cell BK167.out 7).trans rfl
                     have hfz110_0 := blk_frozen BK167.out 0
                     have hfz110_1 := blk_frozen BK167.out 1
                     have hfz110_2 := blk_frozen BK167.out 2
                     have hfz110_3 := blk_frozen BK167.out 3
                     have hfz110_4 := blk_frozen BK167.out 4
                     have hfz110_5 := blk_frozen BK167.out 5
                     have hfz110_6 := blk_frozen BK167.out 6
                     have hfz110_7 := blk_frozen BK167.out 7
                     go_wp2
                     repeat (go_quiet (fail); try go_wp2)
                     refine bodyPost_ret (results_cell_row rfl _ _ gb167 64 #[.int .i64 0, .int .i64 0, .int .i64 0, .int .i64 0, .int .i64 0, .int .i64 0, .int .u32 0, .string (⟨#[]⟩ : ByteArray)] (0, 0) _ rfl (by (with_reducible repeat (first | refine blk_drewN ?_ _ | refine blk_drew ?_ | refine blk_alloc ?_ _)); refine blk_put (cs := #[.int .i64 0, .int .i64 0, .int .i64 0, .int .i64 0, .int .i64 0, .int .i64 0, .int .u32 0, .string x168007_2]) ?_ 7 _ rfl; refine blk_put (cs := #[.int .i64 0, .int .i64 0, .int .i64 0, .int .i64 0, .int .i64 0, .int .i64 0, .int .u32 x168006_2, .string x168007_2]) ?_ 6 _ rfl; refine blk_put (cs := #[.int .i64 0, .int .i64 0, .int .i64 0, .int .i64 0, .int .i64 0, .int .i64 x168005_2, .int .u32 x168006_2, .string x168007_2]) ?_ 5 _ rfl; refine blk_put (cs := #[.int .i64 0, .int .i64 0, .int .i64 0, .int .i64 0, .int .i64 x168004_2, .int .i64 x168005_2, .int .u32 x168006_2, .string x168007_2]) ?_ 4 _ rfl; refine blk_put (cs := #[.int .i64 0, .int .i64 0, .int .i64 0, .int .i64 x168003_2, .int .i64 x168004_2, .int .i64 x168005_2, .int .u32 x168006_2, .string x168007_2]) ?_ 3 _ rfl; refine blk_put (cs := #[.int .i64 0, .int .i64 0, .int .i64 x168002_2, .int .i64 x168003_2, .int .i64 x168004_2, .int .i64 x168005_2, .int .u32 x168006_2, .string x168007_2]) ?_ 2 _ rfl; refine blk_put (cs := #[.int .i64 0, .int .i64 x168001_2, .int .i64 x168002_2, .int .i64 x168003_2, .int .i64 x168004_2, .int .i64 x168005_2, .int .u32 x168006_2, .string x168007_2]) ?_ 1 _ rfl; refine blk_put (cs := #[.int .i64 x168000_2, .int .i64 x168001_2, .int .i64 x168002_2, .int .i64 x168003_2, .int .i64 x168004_2, .int .i64 x168005_2, .int .u32 x168006_2, .string x168007_2]) ?_ 0 _ rfl; (with_reducible repeat (first | refine blk_drewN ?_ _ | refine blk_drew ?_ | refine blk_alloc ?_ _)); exact BK167.out) Tryz.underlying64 rfl (by kernel_rfl)) rfl ?_
                     exact ⟨by first | rfl | (simp [errW_none, errW_some] <;> rfl) | (simp [*, errW_none, errW_some] <;> rfl), by repeat (first | (with_reducible first | exact HB.out | apply below_alloc | apply pw_below_drewN | apply below_drew1 | refine below_set ?_ GE167.out | refine below_set ?_ GE168.out | refine below_set ?_ GE185.out) | exact HB.out)⟩
                   · rw [if_neg c105] at H
                     have c105b0 : decide ((t169.length : Int) ≤ x11_2) = false := decide_eq_false c105
                     clear c105
                     by_cases c111 : 0 ≤ x11_2
                     · rw [if_pos c111] at H
                       have c111b0 : decide (0 ≤ x11_2) = true := decide_eq_true c111
                       clear c111
                       by_cases c112 : x11_2 < (t169.length : Int)
                       · rw [if_pos c112] at H
                         have c112b0 : decide (x11_2 < (t169.length : Int)) = true := decide_eq_true c112
                         clear c112
                         replace H := Option.bind_eq_some_iff.mp H
                         obtain ⟨⟨t191, t192⟩, A1130, H⟩ := H
                         replace H : (if t192 = true then (spec_ReadLine.j3 k2 t169 t183 x11_2 t191 (decide (t191 ≤ 8191)) 0 0 0 0 0 0 0 (⟨#[]⟩ : ByteArray) 3 t183 x186002_2 x186003_2 x186004_2 0 0 (⟨#[]⟩ : ByteArray)) else (spec_ReadLine.j3 k2 t169 t183 x11_2 t191 false 0 0 0 0 0 0 0 (⟨#[]⟩ : ByteArray) 3 t183 x186002_2 x186003_2 x186004_2 0 0 (⟨#[]⟩ : ByteArray))) = some (r1, r2, r3, r4, r5, r6, r7, r8) := H
                         have A113 := Aside0.mk A1130
                         clear A1130
                         have HC114 := Aside0.mk H
                         clear H
                         have p190 : 0 ≤ (x11_2 : Int) := of_decide_eq_true (by first | (with_reducible assumption) | assumption)
                         have q190 : x11_2 < (t169.length : Int) := of_decide_eq_true (by first | (with_reducible assumption) | assumption)
                         obtain ⟨ad190, e190, hx190_0⟩ := Kd.at_string (Kd.R_reads' HO_4.out).2.2 x11_2 p190 q190
                         obtain rfl : ad178 = ad190 := (by injection e190)
                         replace p190 := eq_true p190
                         replace q190 := eq_true q190
                         go_upto_region 42 with (first | (go_at_call 71; (with_reducible refine (spec_DecNum.calls k2 (rdOf ByteArray.empty t169 x11_2) 8192 t191 t192 _ A113.out).mono ?_); rintro e w' ⟨rfl, ⟨nd, rfl⟩⟩; (try first | exact ⟨rfl, _, World.drewN_drewN _ _ _⟩ | exact ⟨rfl, _, Eq.trans (World.drewN_drewN _ _ _) (congrArg (World.drewN _) (Nat.add_assoc _ _ _))⟩)))
                         (try simp only [Act.put, List.setIfInBounds_toArray, List.set_cons_zero, List.set_cons_succ])
                         go_cut [162] (fun v162 wc => ∃ (kq : Nat) (x162_113 : Bool), v162 = .bool x162_113 ∧ Aside0 (spec_ReadLine.j3 kq t169 t183 x11_2 t191 x162_113 0 0 0 0 0 0 0 (⟨#[]⟩ : ByteArray) 3 t183 x186002_2 x186003_2 x186004_2 0 0 (⟨#[]⟩ : ByteArray) = some (r1, r2, r3, r4, r5, r6, r7, r8)) ∧ Aside0 (kq ≤ k2) ∧ Aside0 (Kd.R Kd.string 9 wc w.heap.size (fun _ => True) (.slice (some ad178) t169.length co69) t169) ∧ Aside0 (wc.heap[gb167]? = some (.cells #[.int .i64 x168000_2, .int .i64 x168001_2, .int .i64 x168002_2, .int .i64 x168003_2, .int .i64 x168004_2, .int .i64 x168005_2, .int .u32 x168006_2, .string x168007_2] 64 (0, 0))) ∧ Aside0 (wc.heap[gb168]? = some (.cells #[.int .i64 0, .int .i64 0, .int .i64 0, .int .i64 0, .int .i64 0, .int .i64 0, .int .u32 0, .string (⟨#[]⟩ : ByteArray)] 64 (0, 0))) ∧ Aside0 (wc.heap[gb185]? = some (.cells #[.int .i64 3, .int .i64 t183, .int .i64 x186002_2, .int .i64 x186003_2, .int .i64 x186004_2, .int .i64 0, .int .u32 0, .string (⟨#[]⟩ : ByteArray)] 64 (0, 0))) ∧ Aside0 (Below w.heap.size w wc))
                         case first =>
                          have H := HC114.out
                          clear HC114
                          by_cases c115 : t192 = true
                          · subst c115
                            have H1 : (spec_ReadLine.j3 k2 t169 t183 x11_2 t191 (decide (t191 ≤ 8191)) 0 0 0 0 0 0 0 (⟨#[]⟩ : ByteArray) 3 t183 x186002_2 x186003_2 x186004_2 0 0 (⟨#[]⟩ : ByteArray)) = some (r1, r2, r3, r4, r5, r6, r7, r8) := by rw [if_pos rfl] at H; exact H
                            clear H
                            have H := H1
                            clear H1
                            have H' := Aside0.mk H
                            clear H
                            go_wp2
                            repeat (go_quiet (fail); try go_wp2)
                            go_meet
                            case rel => exact ⟨_, (decide (t191 ≤ 8191)), (by first | rfl | (simp; done) | (simp [*]; done)), H', ⟨by have := HJ8.out; have := HK2.out; first | omega | exact Nat.le_refl _⟩, ⟨by (with_reducible repeat (first | apply Kd.R_alloc | apply Kd.R_drewN | apply Kd.R_drew)); exact HO_4.out⟩, ⟨by (with_reducible repeat (first | refine blk_drewN ?_ _ | refine blk_drew ?_ | refine blk_alloc ?_ _)); exact BK167.out⟩, ⟨by (with_reducible repeat (first | refine blk_drewN ?_ _ | refine blk_drew ?_ | refine blk_alloc ?_ _)); exact BK168.out⟩, ⟨by (with_reducible repeat (first | refine blk_drewN ?_ _ | refine blk_drew ?_ | refine blk_alloc ?_ _)); exact BK185.out⟩, ⟨by repeat (first | (with_reducible first | exact HB.out | apply below_alloc | apply pw_below_drewN | apply below_drew1 | refine below_set ?_ GE167.out | refine below_set ?_ GE168.out | refine below_set ?_ GE185.out) | exact HB.out)⟩⟩
                          · replace c115 := Bool.eq_false_iff.mpr c115
                            subst c115
                            have H1 : (spec_ReadLine.j3 k2 t169 t183 x11_2 t191 false 0 0 0 0 0 0 0 (⟨#[]⟩ : ByteArray) 3 t183 x186002_2 x186003_2 x186004_2 0 0 (⟨#[]⟩ : ByteArray)) = some (r1, r2, r3, r4, r5, r6, r7, r8) := by rw [if_neg (show ¬ (false = true) by decide)] at H; exact H
                            clear H
                            have H := H1
                            clear H1
                            have H' := Aside0.mk H
                            clear H
                            go_wp2
                            repeat (go_quiet (fail); try go_wp2)
                            go_meet
                            case rel => exact ⟨_, (false), (by first | rfl | (simp; done) | (simp [*]; done)), H', ⟨by have := HJ8.out; have := HK2.out; first | omega | exact Nat.le_refl _⟩, ⟨by (with_reducible repeat (first | apply Kd.R_alloc | apply Kd.R_drewN | apply Kd.R_drew)); exact HO_4.out⟩, ⟨by (with_reducible repeat (first | refine blk_drewN ?_ _ | refine blk_drew ?_ | refine blk_alloc ?_ _)); exact BK167.out⟩, ⟨by (with_reducible repeat (first | refine blk_drewN ?_ _ | refine blk_drew ?_ | refine blk_alloc ?_ _)); exact BK168.out⟩, ⟨by (with_reducible repeat (first | refine blk_drewN ?_ _ | refine blk_drew ?_ | refine blk_alloc ?_ _)); exact BK185.out⟩, ⟨by repeat (first | (with_reducible first | exact HB.out | apply below_alloc | apply pw_below_drewN | apply below_drew1 | refine below_set ?_ GE167.out | refine below_set ?_ GE168.out | refine below_set ?_ GE185.out) | exact HB.out)⟩⟩
                         case rest =>
                          clear HC114
                          try clear c1
                          try clear p1
                          try clear q1
                          try clear hx1
                          try clear c2
                          try clear p2
                          try clear q2
                          try clear c3
                          try clear c4
                          try clear c5
                          try clear c6
                          try clear p6
                          try clear c7
                          try clear c8
                          try clear c9
                          try clear c10
                          try clear c11
                          try clear p17
                          try clear q17
                          try clear hx17
                          try clear p18
                          try clear q18
                          try clear hx18
                          try clear p19
                          try clear q19
                          try clear hx19
                          try clear p21
                          try clear q21
                          try clear c28
                          try clear c28b0
                          try clear c28b1
                          try clear c29
                          try clear c29b0
                          try clear c29b1
                          try clear c31
                          try clear c33
                          try clear c36
                          try clear c39
                          try clear c39b0
                          try clear c39b1
                          try clear c40
                          try clear c40b0
                          try clear c40b1
                          try clear c41
                          try clear c41b0
                          try clear c41b1
                          try clear c42
                          try clear c42b0
                          try clear c42b1
                          try clear c44
                          try clear c45
                          try clear c45b0
                          try clear c47
                          try clear c51
                          try clear c54
                          try clear c58
                          try clear c62
                          try clear c62b0
                          try clear p64
                          try clear c65
                          try clear c73
                          try clear c74
                          try clear c76
                          try clear c76b0
                          try clear c77
                          try clear c77b0
                          try clear c77b1
                          try clear c78
                          try clear c78b0
                          try clear c78b1
                          try clear c80
                          try clear c80b0
                          try clear c81
                          try clear c81b0
                          try clear c82
                          try clear c82b0
                          try clear c84
                          try clear c85
                          try clear c86
                          try clear c88
                          try clear c90
                          try clear c90b0
                          try clear c91
                          try clear c91b0
                          try clear c93
                          try clear c93b0
                          try clear c93b1
                          try clear c94
                          try clear c95
                          try clear c97
                          try clear c97b0
                          try clear c97b1
                          try clear c98
                          try clear c99
                          try clear c101
                          try clear c102
                          try clear c104
                          try clear c104b0
                          try clear c104b1
                          try clear c105
                          try clear c105b0
                          try clear c106
                          try clear c107
                          try clear c109
                          try clear c111
                          try clear c111b0
                          try clear c112
                          try clear c112b0
                          try clear c115
                          try clear hx172_0
                          try clear hx173_0
                          try clear hx174_0
                          try clear hx175_0
                          try clear hx176_0
                          try clear hx178_0
                          try clear hx179_0
                          try clear hx182_0
                          try clear hx186_0
                          try clear hx188_0
                          try clear hx190_0
                          try clear p1
                          try clear p17
                          try clear p172
                          try clear p173
                          try clear p174
                          try clear p175
                          try clear p176
                          try clear p178
                          try clear p179
                          try clear p18
                          try clear p182
                          try clear p186
                          try clear p188
                          try clear p190
                          try clear p2
                          try clear p21
                          try clear p6
                          try clear p64
                          try clear q1
                          try clear q17
                          try clear q172
                          try clear q173
                          try clear q174
                          try clear q175
                          try clear q176
                          try clear q178
                          try clear q179
                          try clear q18
                          try clear q182
                          try clear q186
                          try clear q188
                          try clear q190
                          try clear q2
                          try clear q21
                          obtain ⟨kq, x162_113, rfl, HA, HJ113, HO_4, BK167, BK168, BK185, HB⟩ := hcut
                          cases kq with
                          | zero => exact absurd HA.out (by simp [spec_ReadLine.j3])
                          | succ kj113 =>
                           have H := HA.out
                           clear HA
                           simp only [spec_ReadLine.j3] at H
                           by_cases c116 : x162_113 = true
                           · subst c116
                             have H1 : (if (wrap64 (x11_2 + 1)) = (t169.length : Int) then (some (3, t183, x186002_2, x186003_2, x186004_2, t191, 0, (⟨#[]⟩ : ByteArray))) else (some (0, 0, 0, 0, 0, 0, 0, (⟨#[]⟩ : ByteArray)))) = some (r1, r2, r3, r4, r5, r6, r7, r8) := by rw [if_pos rfl] at H; exact H
                             clear H
                             have H := H1
                             clear H1
                             by_cases c117 : (wrap64 (x11_2 + 1)) = (t169.length : Int)
                             · rw [if_pos c117] at H
                               have c117b0 : ((wrap64 (x11_2 + 1)) == (t169.length : Int)) = true := beq_iff_eq.mpr c117
                               have c117b1 : ((wrap64 (x11_2 + 1)) != (t169.length : Int)) = false := bne_eq_false_iff_eq.mpr c117
                               clear c117
                               simp only [Option.some.injEq, Prod.mk.injEq] at H
                               obtain ⟨rfl, rfl, rfl, rfl, rfl, rfl, rfl, rfl⟩ := H
                               have hnb118 := NB185_167.out
                               have hnc118 := NB167_185.out
                               have hnb119 := NB185_168.out
                               have hnc119 := NB168_185.out
                               have hcz120_0 : wc.cell? ⟨gb185, 0, none⟩ = some (.int .i64 3) := (blk_cell BK185.out 0).trans rfl
                               have hcz120_1 : wc.cell? ⟨gb185, 1, none⟩ = some (.int .i64 t183) := (blk_cell BK185.out 1).trans rfl
                               have hcz120_2 : wc.cell? ⟨gb185, 2, none⟩ = some (.int .i64 x186002_2) := (blk_cell BK185.out 2).trans rfl
                               have hcz120_3 : wc.cell? ⟨gb185, 3, none⟩ = some (.int .i64 x186003_2) := (blk_cell BK185.out 3).trans rfl
                               have hcz120_4 : wc.cell? ⟨gb185, 4, none⟩ = some (.int .i64 x186004_2) := (blk_cell BK185.out 4).trans rfl
                               have hcz120_5 : wc.cell? ⟨gb185, 5, none⟩ = some (.int .i64 0) := (blk_cell BK185.out 5).trans rfl
                               have hcz120_6 : wc.cell? ⟨gb185, 6, none⟩ = some (.int .u32 0) := (blk_cell BK185.out 6).trans rfl
                               have hcz120_7 : wc.cell? ⟨gb185, 7, none⟩ = some (.string (⟨#[]⟩ : ByteArray)) := (blk_cell BK185.out 7).trans rfl
                               have hfz120_0 := blk_frozen BK185.out 0
                               have hfz120_1 := blk_frozen BK185.out 1
                               have hfz120_2 := blk_frozen BK185.out 2
                               have hfz120_3 := blk_frozen BK185.out 3
                               have hfz120_4 := blk_frozen BK185.out 4
                               have hfz120_5 := blk_frozen BK185.out 5
                               have hfz120_6 := blk_frozen BK185.out 6
                               have hfz120_7 := blk_frozen BK185.out 7
                               have hnb121 := NB167_168.out
                               have hnc121 := NB168_167.out
                               have hcz122_0 : wc.cell? ⟨gb167, 0, none⟩ = some (.int .i64 x168000_2) := (blk_cell BK167.out 0).trans rfl
                               have hcz122_1 : wc.cell? ⟨gb167, 1, none⟩ = some (.int .i64 x168001_2) := (blk_cell BK167.out 1).trans rfl
                               have hcz122_2 : wc.cell? ⟨gb167, 2, none⟩ = some (.int .i64 x168002_2) := (blk_cell BK167.out 2).trans rfl
                               have hcz122_3 : wc.cell? ⟨gb167, 3, none⟩ = some (.int .i64 x168003_2) := (blk_cell BK167.out 3).trans rfl
                               have hcz122_4 : wc.cell? ⟨gb167, 4, none⟩ = some (.int .i64 x168004_2) := (blk_cell BK167.out 4).trans rfl
                               have hcz122_5 : wc.cell? ⟨gb167, 5, none⟩ = some (.int .i64 x168005_2) := (blk_cell BK167.out 5).trans rfl
                               have hcz122_6 : wc.cell? ⟨gb167, 6, none⟩ = some (.int .u32 x168006_2) := (blk_cell BK167.out 6).trans rfl
                               have hcz122_7 : wc.cell? ⟨gb167, 7, none⟩ = some (.string x168007_2) := (blk_cell BK167.out 7).trans rfl
                               have hfz122_0 := blk_frozen BK167.out 0
                               have hfz122_1 := blk_frozen BK167.out 1
                               have hfz122_2 := blk_frozen BK167.out 2
                               have hfz122_3 := blk_frozen BK167.out 3
                               have hfz122_4 := blk_frozen BK167.out 4
                               have hfz122_5 := blk_frozen BK167.out 5
                               have hfz122_6 := blk_frozen BK167.out 6
                               have hfz122_7 := blk_frozen BK167.out 7
                               go_wp2
                               repeat (go_quiet (fail); try go_wp2)
                               refine bodyPost_ret (results_cell_row rfl _ _ gb167 64 #[.int .i64 3, .int .i64 t183, .int .i64 x186002_2, .int .i64 x186003_2, .int .i64 x186004_2, .int .i64 t191, .int .u32 0, .string (⟨#[]⟩ : ByteArray)] (0, 0) _ rfl (by (with_reducible repeat (first | refine blk_drewN ?_ _ | refine blk_drew ?_ | refine blk_alloc ?_ _)); refine blk_put (cs := #[.int .i64 3, .int .i64 t183, .int .i64 x186002_2, .int .i64 x186003_2, .int .i64 x186004_2, .int .i64 t191, .int .u32 0, .string x168007_2]) ?_ 7 _ rfl; refine blk_put (cs := #[.int .i64 3, .int .i64 t183, .int .i64 x186002_2, .int .i64 x186003_2, .int .i64 x186004_2, .int .i64 t191, .int .u32 x168006_2, .string x168007_2]) ?_ 6 _ rfl; refine blk_put (cs := #[.int .i64 3, .int .i64 t183, .int .i64 x186002_2, .int .i64 x186003_2, .int .i64 x186004_2, .int .i64 x168005_2, .int .u32 x168006_2, .string x168007_2]) ?_ 5 _ rfl; refine blk_put (cs := #[.int .i64 3, .int .i64 t183, .int .i64 x186002_2, .int .i64 x186003_2, .int .i64 x168004_2, .int .i64 x168005_2, .int .u32 x168006_2, .string x168007_2]) ?_ 4 _ rfl; refine blk_put (cs := #[.int .i64 3, .int .i64 t183, .int .i64 x186002_2, .int .i64 x168003_2, .int .i64 x168004_2, .int .i64 x168005_2, .int .u32 x168006_2, .string x168007_2]) ?_ 3 _ rfl; refine blk_put (cs := #[.int .i64 3, .int .i64 t183, .int .i64 x168002_2, .int .i64 x168003_2, .int .i64 x168004_2, .int .i64 x168005_2, .int .u32 x168006_2, .string x168007_2]) ?_ 2 _ rfl; refine blk_put (cs := #[.int .i64 3, .int .i64 x168001_2, .int .i64 x168002_2, .int .i64 x168003_2, .int .i64 x168004_2, .int .i64 x168005_2, .int .u32 x168006_2, .string x168007_2]) ?_ 1 _ rfl; refine blk_put (cs := #[.int .i64 x168000_2, .int .i64 x168001_2, .int .i64 x168002_2, .int .i64 x168003_2, .int .i64 x168004_2, .int .i64 x168005_2, .int .u32 x168006_2, .string x168007_2]) ?_ 0 _ rfl; (with_reducible repeat (first | refine blk_drewN ?_ _ | refine blk_drew ?_ | refine blk_alloc ?_ _)); refine blk_far ?_ NB167_185.out _; (with_reducible repeat (first | refine blk_drewN ?_ _ | refine blk_drew ?_ | refine blk_alloc ?_ _)); exact BK167.out) Tryz.underlying64 rfl (by kernel_rfl)) rfl ?_
                               exact ⟨by first | rfl | (simp [errW_none, errW_some] <;> rfl) | (simp [*, errW_none, errW_some] <;> rfl), by repeat (first | (with_reducible first | exact HB.out | apply below_alloc | apply pw_below_drewN | apply below_drew1 | refine below_set ?_ GE167.out | refine below_set ?_ GE168.out | refine below_set ?_ GE185.out) | exact HB.out)⟩
                             · rw [if_neg c117] at H
                               have c117b0 : ((wrap64 (x11_2 + 1)) == (t169.length : Int)) = false := beq_eq_false_iff_ne.mpr c117
                               have c117b1 : ((wrap64 (x11_2 + 1)) != (t169.length : Int)) = true := bne_iff_ne.mpr c117
                               simp only [Option.some.injEq, Prod.mk.injEq] at H
                               obtain ⟨rfl, rfl, rfl, rfl, rfl, rfl, rfl, rfl⟩ := H
                               have hnb123 := NB185_167.out
                               have hnc123 := NB167_185.out
                               have hnb124 := NB185_168.out
                               have hnc124 := NB168_185.out
                               have hcz125_0 : wc.cell? ⟨gb185, 0, none⟩ = some (.int .i64 3) := (blk_cell BK185.out 0).trans rfl
                               have hcz125_1 : wc.cell? ⟨gb185, 1, none⟩ = some (.int .i64 t183) := (blk_cell BK185.out 1).trans rfl
                               have hcz125_2 : wc.cell? ⟨gb185, 2, none⟩ = some (.int .i64 x186002_2) := (blk_cell BK185.out 2).trans rfl
                               have hcz125_3 : wc.cell? ⟨gb185, 3, none⟩ = some (.int .i64 x186003_2) := (blk_cell BK185.out 3).trans rfl
                               have hcz125_4 : wc.cell? ⟨gb185, 4, none⟩ = some (.int .i64 x186004_2) := (blk_cell BK185.out 4).trans rfl
                               have hcz125_5 : wc.cell? ⟨gb185, 5, none⟩ = some (.int .i64 0) := (blk_cell BK185.out 5).trans rfl
                               have hcz125_6 : wc.cell? ⟨gb185, 6, none⟩ = some (.int .u32 0) := (blk_cell BK185.out 6).trans rfl
                               have hcz125_7 : wc.cell? ⟨gb185, 7, none⟩ = some (.string (⟨#[]⟩ : ByteArray)) := (blk_cell BK185.out 7).trans rfl
                               have hfz125_0 := blk_frozen BK185.out 0
                               have hfz125_1 := blk_frozen BK185.out 1
                               have hfz125_2 := blk_frozen BK185.out 2
                               have hfz125_3 := blk_frozen BK185.out 3
                               have hfz125_4 := blk_frozen BK185.out 4
                               have hfz125_5 := blk_frozen BK185.out 5
                               have hfz125_6 := blk_frozen BK185.out 6
                               have hfz125_7 := blk_frozen BK185.out 7
                               have hnb126 := NB168_167.out
                               have hnc126 := NB167_168.out
                               have hcz127_0 : wc.cell? ⟨gb168, 0, none⟩ = some (.int .i64 0) := (blk_cell BK168.out 0).trans rfl
                               have hcz127_1 : wc.cell? ⟨gb168, 1, none⟩ = some (.int .i64 0) := (blk_cell BK168.out 1).trans rfl
                               have hcz127_2 : wc.cell? ⟨gb168, 2, none⟩ = some (.int .i64 0) := (blk_cell BK168.out 2).trans rfl
                               have hcz127_3 : wc.cell? ⟨gb168, 3, none⟩ = some (.int .i64 0) := (blk_cell BK168.out 3).trans rfl
                               have hcz127_4 : wc.cell? ⟨gb168, 4, none⟩ = some (.int .i64 0) := (blk_cell BK168.out 4).trans rfl
                               have hcz127_5 : wc.cell? ⟨gb168, 5, none⟩ = some (.int .i64 0) := (blk_cell BK168.out 5).trans rfl
                               have hcz127_6 : wc.cell? ⟨gb168, 6, none⟩ = some (.int .u32 0) := (blk_cell BK168.out 6).trans rfl
                               have hcz127_7 : wc.cell? ⟨gb168, 7, none⟩ = some (.string (⟨#[]⟩ : ByteArray)) := (blk_cell BK168.out 7).trans rfl
                               have hfz127_0 := blk_frozen BK168.out 0
                               have hfz127_1 := blk_frozen BK168.out 1
                               have hfz127_2 := blk_frozen BK168.out 2
                               have hfz127_3 := blk_frozen BK168.out 3
                               have hfz127_4 := blk_frozen BK168.out 4
                               have hfz127_5 := blk_frozen BK168.out 5
                               have hfz127_6 := blk_frozen BK168.out 6
                               have hfz127_7 := blk_frozen BK168.out 7
                               have hcz128_0 : wc.cell? ⟨gb167, 0, none⟩ = some (.int .i64 x168000_2) := (blk_cell BK167.out 0).trans rfl
                               have hcz128_1 : wc.cell? ⟨gb167, 1, none⟩ = some (.int .i64 x168001_2) := (blk_cell BK167.out 1).trans rfl
                               have hcz128_2 : wc.cell? ⟨gb167, 2, none⟩ = some (.int .i64 x168002_2) := (blk_cell BK167.out 2).trans rfl
                               have hcz128_3 : wc.cell? ⟨gb167, 3, none⟩ = some (.int .i64 x168003_2) := (blk_cell BK167.out 3).trans rfl
                               have hcz128_4 : wc.cell? ⟨gb167, 4, none⟩ = some (.int .i64 x168004_2) := (blk_cell BK167.out 4).trans rfl
                               have hcz128_5 : wc.cell? ⟨gb167, 5, none⟩ = some (.int .i64 x168005_2) := (blk_cell BK167.out 5).trans rfl
                               have hcz128_6 : wc.cell? ⟨gb167, 6, none⟩ = some (.int .u32 x168006_2) := (blk_cell BK167.out 6).trans rfl
                               have hcz128_7 : wc.cell? ⟨gb167, 7, none⟩ = some (.string x168007_2) := (blk_cell BK167.out 7).trans rfl
                               have hfz128_0 := blk_frozen BK167.out 0
                               have hfz128_1 := blk_frozen BK167.out 1
                               have hfz128_2 := blk_frozen BK167.out 2
                               have hfz128_3 := blk_frozen BK167.out 3
                               have hfz128_4 := blk_frozen BK167.out 4
                               have hfz128_5 := blk_frozen BK167.out 5
                               have hfz128_6 := blk_frozen BK167.out 6
                               have hfz128_7 := blk_frozen BK167.out 7
                               go_wp2
                               repeat (go_quiet (fail); try go_wp2)
                               refine bodyPost_ret (results_cell_row rfl _ _ gb167 64 #[.int .i64 0, .int .i64 0, .int .i64 0, .int .i64 0, .int .i64 0, .int .i64 0, .int .u32 0, .string (⟨#[]⟩ : ByteArray)] (0, 0) _ rfl (by (with_reducible repeat (first | refine blk_drewN ?_ _ | refine blk_drew ?_ | refine blk_alloc ?_ _)); refine blk_put (cs := #[.int .i64 0, .int .i64 0, .int .i64 0, .int .i64 0, .int .i64 0, .int .i64 0, .int .u32 0, .string x168007_2]) ?_ 7 _ rfl; refine blk_put (cs := #[.int .i64 0, .int .i64 0, .int .i64 0, .int .i64 0, .int .i64 0, .int .i64 0, .int .u32 x168006_2, .string x168007_2]) ?_ 6 _ rfl; refine blk_put (cs := #[.int .i64 0, .int .i64 0, .int .i64 0, .int .i64 0, .int .i64 0, .int .i64 x168005_2, .int .u32 x168006_2, .string x168007_2]) ?_ 5 _ rfl; refine blk_put (cs := #[.int .i64 0, .int .i64 0, .int .i64 0, .int .i64 0, .int .i64 x168004_2, .int .i64 x168005_2, .int .u32 x168006_2, .string x168007_2]) ?_ 4 _ rfl; refine blk_put (cs := #[.int .i64 0, .int .i64 0, .int .i64 0, .int .i64 x168003_2, .int .i64 x168004_2, .int .i64 x168005_2, .int .u32 x168006_2, .string x168007_2]) ?_ 3 _ rfl; refine blk_put (cs := #[.int .i64 0, .int .i64 0, .int .i64 x168002_2, .int .i64 x168003_2, .int .i64 x168004_2, .int .i64 x168005_2, .int .u32 x168006_2, .string x168007_2]) ?_ 2 _ rfl; refine blk_put (cs := #[.int .i64 0, .int .i64 x168001_2, .int .i64 x168002_2, .int .i64 x168003_2, .int .i64 x168004_2, .int .i64 x168005_2, .int .u32 x168006_2, .string x168007_2]) ?_ 1 _ rfl; refine blk_put (cs := #[.int .i64 x168000_2, .int .i64 x168001_2, .int .i64 x168002_2, .int .i64 x168003_2, .int .i64 x168004_2, .int .i64 x168005_2, .int .u32 x168006_2, .string x168007_2]) ?_ 0 _ rfl; (with_reducible repeat (first | refine blk_drewN ?_ _ | refine blk_drew ?_ | refine blk_alloc ?_ _)); refine blk_far ?_ NB167_185.out _; (with_reducible repeat (first | refine blk_drewN ?_ _ | refine blk_drew ?_ | refine blk_alloc ?_ _)); exact BK167.out) Tryz.underlying64 rfl (by kernel_rfl)) rfl ?_
                               exact ⟨by first | rfl | (simp [errW_none, errW_some] <;> rfl) | (simp [*, errW_none, errW_some] <;> rfl), by repeat (first | (with_reducible first | exact HB.out | apply below_alloc | apply pw_below_drewN | apply below_drew1 | refine below_set ?_ GE167.out | refine below_set ?_ GE168.out | refine below_set ?_ GE185.out) | exact HB.out)⟩
                           · replace c116 := Bool.eq_false_iff.mpr c116
                             subst c116
                             have H1 : ((spec_l01In.f t183 19 22).bind fun t193 => (if t193 = true then (if 0 ≤ x11_2 then (if x11_2 < (t169.length : Int) then ((spec_LabelOk.f kj113 (rdOf ByteArray.empty t169 x11_2)).bind fun t195 => (spec_ReadLine.j4 kj113 t169 x11_2 t195 0 0 0 0 0 0 0 (⟨#[]⟩ : ByteArray) 3 t183 x186002_2 x186003_2 x186004_2 0 0 (⟨#[]⟩ : ByteArray))) else (none)) else (none)) else (spec_ReadLine.j4 kj113 t169 x11_2 false 0 0 0 0 0 0 0 (⟨#[]⟩ : ByteArray) 3 t183 x186002_2 x186003_2 x186004_2 0 0 (⟨#[]⟩ : ByteArray)))) = some (r1, r2, r3, r4, r5, r6, r7, r8) := by rw [if_neg (show ¬ (false = true) by decide)] at H; exact H
                             clear H
                             have H := H1
                             clear H1
                             have HC129 := Aside0.mk H
                             clear H
                             go_upto_region 44 with (fail)
                             repeat (go_quiet (fail); go_upto_region 44 with (fail))
                             go_cut [174] (fun v174 wc => ∃ (kq : Nat) (x174_128 : Bool), v174 = .bool x174_128 ∧ Aside0 (spec_ReadLine.j4 kq t169 x11_2 x174_128 0 0 0 0 0 0 0 (⟨#[]⟩ : ByteArray) 3 t183 x186002_2 x186003_2 x186004_2 0 0 (⟨#[]⟩ : ByteArray) = some (r1, r2, r3, r4, r5, r6, r7, r8)) ∧ Aside0 (kq ≤ kj113) ∧ Aside0 (Kd.R Kd.string 9 wc w.heap.size (fun _ => True) (.slice (some ad178) t169.length co69) t169) ∧ Aside0 (wc.heap[gb167]? = some (.cells #[.int .i64 x168000_2, .int .i64 x168001_2, .int .i64 x168002_2, .int .i64 x168003_2, .int .i64 x168004_2, .int .i64 x168005_2, .int .u32 x168006_2, .string x168007_2] 64 (0, 0))) ∧ Aside0 (wc.heap[gb168]? = some (.cells #[.int .i64 0, .int .i64 0, .int .i64 0, .int .i64 0, .int .i64 0, .int .i64 0, .int .u32 0, .string (⟨#[]⟩ : ByteArray)] 64 (0, 0))) ∧ Aside0 (wc.heap[gb185]? = some (.cells #[.int .i64 3, .int .i64 t183, .int .i64 x186002_2, .int .i64 x186003_2, .int .i64 x186004_2, .int .i64 0, .int .u32 0, .string (⟨#[]⟩ : ByteArray)] 64 (0, 0))) ∧ Aside0 (Below w.heap.size w wc))
                             case first =>
                              have H := HC129.out
                              clear HC129
                              replace H := Option.bind_eq_some_iff.mp H
                              obtain ⟨t193, A1300, H⟩ := H
                              replace H : (if t193 = true then (if 0 ≤ x11_2 then (if x11_2 < (t169.length : Int) then ((spec_LabelOk.f kj113 (rdOf ByteArray.empty t169 x11_2)).bind fun t195 => (spec_ReadLine.j4 kj113 t169 x11_2 t195 0 0 0 0 0 0 0 (⟨#[]⟩ : ByteArray) 3 t183 x186002_2 x186003_2 x186004_2 0 0 (⟨#[]⟩ : ByteArray))) else (none)) else (none)) else (spec_ReadLine.j4 kj113 t169 x11_2 false 0 0 0 0 0 0 0 (⟨#[]⟩ : ByteArray) 3 t183 x186002_2 x186003_2 x186004_2 0 0 (⟨#[]⟩ : ByteArray))) = some (r1, r2, r3, r4, r5, r6, r7, r8) := H
                              have A130 := Aside0.mk A1300
                              clear A1300
                              by_cases c131 : t193 = true
                              · subst c131
                                have H1 : (if 0 ≤ x11_2 then (if x11_2 < (t169.length : Int) then ((spec_LabelOk.f kj113 (rdOf ByteArray.empty t169 x11_2)).bind fun t195 => (spec_ReadLine.j4 kj113 t169 x11_2 t195 0 0 0 0 0 0 0 (⟨#[]⟩ : ByteArray) 3 t183 x186002_2 x186003_2 x186004_2 0 0 (⟨#[]⟩ : ByteArray))) else (none)) else (none)) = some (r1, r2, r3, r4, r5, r6, r7, r8) := by rw [if_pos rfl] at H; exact H
                                clear H
                                have H := H1
                                clear H1
                                by_cases c132 : 0 ≤ x11_2
                                · rw [if_pos c132] at H
                                  have c132b0 : decide (0 ≤ x11_2) = true := decide_eq_true c132
                                  clear c132
                                  (first | rw [c132b0] | (simp only [i64_w, i32_w]; rw [c132b0]) | skip)
                                  by_cases c133 : x11_2 < (t169.length : Int)
                                  · rw [if_pos c133] at H
                                    have c133b0 : decide (x11_2 < (t169.length : Int)) = true := decide_eq_true c133
                                    clear c133
                                    replace H := Option.bind_eq_some_iff.mp H
                                    obtain ⟨t195, A1340, H⟩ := H
                                    replace H : (spec_ReadLine.j4 kj113 t169 x11_2 t195 0 0 0 0 0 0 0 (⟨#[]⟩ : ByteArray) 3 t183 x186002_2 x186003_2 x186004_2 0 0 (⟨#[]⟩ : ByteArray)) = some (r1, r2, r3, r4, r5, r6, r7, r8) := H
                                    have A134 := Aside0.mk A1340
                                    clear A1340
                                    have H' := Aside0.mk H
                                    clear H
                                    go_wp2_with (first | (go_at_call 74; (with_reducible refine (spec_l01In.calls t183 19 22 true _ A130.out).mono ?_); rintro e w' ⟨rfl, ⟨nd, rfl⟩⟩; (try first | exact ⟨rfl, _, World.drewN_drewN _ _ _⟩ | exact ⟨rfl, _, Eq.trans (World.drewN_drewN _ _ _) (congrArg (World.drewN _) (Nat.add_assoc _ _ _))⟩); have p194 : 0 ≤ (x11_2 : Int) := of_decide_eq_true (by first | (with_reducible assumption) | assumption); have q194 : x11_2 < (t169.length : Int) := of_decide_eq_true (by first | (with_reducible assumption) | assumption); obtain ⟨ad194, e194, hx194_0⟩ := Kd.at_string (Kd.R_reads' HO_4.out).2.2 x11_2 p194 q194; obtain rfl : ad178 = ad194 := (by injection e194); replace p194 := eq_true p194; replace q194 := eq_true q194) | (go_at_call 70; (with_reducible refine (spec_LabelOk.calls kj113 (rdOf ByteArray.empty t169 x11_2) t195 _ A134.out).mono ?_); rintro e w' ⟨rfl, ⟨nd, rfl⟩⟩; (try first | exact ⟨rfl, _, World.drewN_drewN _ _ _⟩ | exact ⟨rfl, _, Eq.trans (World.drewN_drewN _ _ _) (congrArg (World.drewN _) (Nat.add_assoc _ _ _))⟩)))
                                    repeat (go_quiet (first | (go_at_call 74; (with_reducible refine (spec_l01In.calls t183 19 22 true _ A130.out).mono ?_); rintro e w' ⟨rfl, ⟨nd, rfl⟩⟩; (try first | exact ⟨rfl, _, World.drewN_drewN _ _ _⟩ | exact ⟨rfl, _, Eq.trans (World.drewN_drewN _ _ _) (congrArg (World.drewN _) (Nat.add_assoc _ _ _))⟩); have p194 : 0 ≤ (x11_2 : Int) := of_decide_eq_true (by first | (with_reducible assumption) | assumption); have q194 : x11_2 < (t169.length : Int) := of_decide_eq_true (by first | (with_reducible assumption) | assumption); obtain ⟨ad194, e194, hx194_0⟩ := Kd.at_string (Kd.R_reads' HO_4.out).2.2 x11_2 p194 q194; obtain rfl : ad178 = ad194 := (by injection e194); replace p194 := eq_true p194; replace q194 := eq_true q194) | (go_at_call 70; (with_reducible refine (spec_LabelOk.calls kj113 (rdOf ByteArray.empty t169 x11_2) t195 _ A134.out).mono ?_); rintro e w' ⟨rfl, ⟨nd, rfl⟩⟩; (try first | exact ⟨rfl, _, World.drewN_drewN _ _ _⟩ | exact ⟨rfl, _, Eq.trans (World.drewN_drewN _ _ _) (congrArg (World.drewN _) (Nat.add_assoc _ _ _))⟩))); try go_wp2_with (first | (go_at_call 74; (with_reducible refine (spec_l01In.calls t183 19 22 true _ A130.out).mono ?_); rintro e w' ⟨rfl, ⟨nd, rfl⟩⟩; (try first | exact ⟨rfl, _, World.drewN_drewN _ _ _⟩ | exact ⟨rfl, _, Eq.trans (World.drewN_drewN _ _ _) (congrArg (World.drewN _) (Nat.add_assoc _ _ _))⟩); have p194 : 0 ≤ (x11_2 : Int) := of_decide_eq_true (by first | (with_reducible assumption) | assumption); have q194 : x11_2 < (t169.length : Int) := of_decide_eq_true (by first | (with_reducible assumption) | assumption); obtain ⟨ad194, e194, hx194_0⟩ := Kd.at_string (Kd.R_reads' HO_4.out).2.2 x11_2 p194 q194; obtain rfl : ad178 = ad194 := (by injection e194); replace p194 := eq_true p194; replace q194 := eq_true q194) | (go_at_call 70; (with_reducible refine (spec_LabelOk.calls kj113 (rdOf ByteArray.empty t169 x11_2) t195 _ A134.out).mono ?_); rintro e w' ⟨rfl, ⟨nd, rfl⟩⟩; (try first | exact ⟨rfl, _, World.drewN_drewN _ _ _⟩ | exact ⟨rfl, _, Eq.trans (World.drewN_drewN _ _ _) (congrArg (World.drewN _) (Nat.add_assoc _ _ _))⟩))))
                                    go_meet
                                    case rel => exact ⟨_, (t195), (by first | rfl | (simp; done) | (simp [*]; done)), H', ⟨by have := HJ8.out; have := HK2.out; have := HJ113.out; first | omega | exact Nat.le_refl _⟩, ⟨by (with_reducible repeat (first | apply Kd.R_alloc | apply Kd.R_drewN | apply Kd.R_drew)); exact HO_4.out⟩, ⟨by (with_reducible repeat (first | refine blk_drewN ?_ _ | refine blk_drew ?_ | refine blk_alloc ?_ _)); exact BK167.out⟩, ⟨by (with_reducible repeat (first | refine blk_drewN ?_ _ | refine blk_drew ?_ | refine blk_alloc ?_ _)); exact BK168.out⟩, ⟨by (with_reducible repeat (first | refine blk_drewN ?_ _ | refine blk_drew ?_ | refine blk_alloc ?_ _)); exact BK185.out⟩, ⟨by repeat (first | (with_reducible first | exact HB.out | apply below_alloc | apply pw_below_drewN | apply below_drew1 | refine below_set ?_ GE167.out | refine below_set ?_ GE168.out | refine below_set ?_ GE185.out) | exact HB.out)⟩⟩
                                  · rw [if_neg c133] at H
                                    exact absurd H (by simp)
                                · rw [if_neg c132] at H
                                  exact absurd H (by simp)
                              · replace c131 := Bool.eq_false_iff.mpr c131
                                subst c131
                                have H1 : (spec_ReadLine.j4 kj113 t169 x11_2 false 0 0 0 0 0 0 0 (⟨#[]⟩ : ByteArray) 3 t183 x186002_2 x186003_2 x186004_2 0 0 (⟨#[]⟩ : ByteArray)) = some (r1, r2, r3, r4, r5, r6, r7, r8) := by rw [if_neg (show ¬ (false = true) by decide)] at H; exact H
                                clear H
                                have H := H1
                                clear H1
                                have H' := Aside0.mk H
                                clear H
                                go_wp2_with (first | (go_at_call 74; (with_reducible refine (spec_l01In.calls t183 19 22 false _ A130.out).mono ?_); rintro e w' ⟨rfl, ⟨nd, rfl⟩⟩; (try first | exact ⟨rfl, _, World.drewN_drewN _ _ _⟩ | exact ⟨rfl, _, Eq.trans (World.drewN_drewN _ _ _) (congrArg (World.drewN _) (Nat.add_assoc _ _ _))⟩)))
                                go_meet
                                case rel => exact ⟨_, (false), (by first | rfl | (simp; done) | (simp [*]; done)), H', ⟨by have := HJ8.out; have := HK2.out; have := HJ113.out; first | omega | exact Nat.le_refl _⟩, ⟨by (with_reducible repeat (first | apply Kd.R_alloc | apply Kd.R_drewN | apply Kd.R_drew)); exact HO_4.out⟩, ⟨by (with_reducible repeat (first | refine blk_drewN ?_ _ | refine blk_drew ?_ | refine blk_alloc ?_ _)); exact BK167.out⟩, ⟨by (with_reducible repeat (first | refine blk_drewN ?_ _ | refine blk_drew ?_ | refine blk_alloc ?_ _)); exact BK168.out⟩, ⟨by (with_reducible repeat (first | refine blk_drewN ?_ _ | refine blk_drew ?_ | refine blk_alloc ?_ _)); exact BK185.out⟩, ⟨by repeat (first | (with_reducible first | exact HB.out | apply below_alloc | apply pw_below_drewN | apply below_drew1 | refine below_set ?_ GE167.out | refine below_set ?_ GE168.out | refine below_set ?_ GE185.out) | exact HB.out)⟩⟩
                             case rest =>
                              clear HC129
                              try clear c1
                              try clear p1
                              try clear q1
                              try clear hx1
                              try clear p2
                              try clear q2
                              try clear p6
                              try clear c11
                              try clear c12
                              try clear c13
                              try clear p17
                              try clear q17
                              try clear hx17
                              try clear p18
                              try clear q18
                              try clear hx18
                              try clear p19
                              try clear q19
                              try clear hx19
                              try clear p21
                              try clear q21
                              try clear p64
                              try clear c116
                              try clear c117
                              try clear c117b0
                              try clear c117b1
                              try clear c118
                              try clear c119
                              try clear c121
                              try clear c123
                              try clear c124
                              try clear c126
                              try clear c131
                              try clear c132
                              try clear c132b0
                              try clear c133
                              try clear c133b0
                              try clear hx172_0
                              try clear hx173_0
                              try clear hx174_0
                              try clear hx175_0
                              try clear hx176_0
                              try clear hx178_0
                              try clear hx179_0
                              try clear hx182_0
                              try clear hx186_0
                              try clear hx188_0
                              try clear hx190_0
                              try clear hx194_0
                              try clear p1
                              try clear p17
                              try clear p172
                              try clear p173
                              try clear p174
                              try clear p175
                              try clear p176
                              try clear p178
                              try clear p179
                              try clear p18
                              try clear p182
                              try clear p186
                              try clear p188
                              try clear p190
                              try clear p194
                              try clear p2
                              try clear p21
                              try clear p6
                              try clear p64
                              try clear q1
                              try clear q17
                              try clear q172
                              try clear q173
                              try clear q174
                              try clear q175
                              try clear q176
                              try clear q178
                              try clear q179
                              try clear q18
                              try clear q182
                              try clear q186
                              try clear q188
                              try clear q190
                              try clear q194
                              try clear q2
                              try clear q21
                              obtain ⟨kq, x174_128, rfl, HA, HJ128, HO_4, BK167, BK168, BK185, HB⟩ := hcut
                              cases kq with
                              | zero => exact absurd HA.out (by simp [spec_ReadLine.j4])
                              | succ kj128 =>
                               have H := HA.out
                               clear HA
                               simp only [spec_ReadLine.j4] at H
                               by_cases c135 : x174_128 = true
                               · subst c135
                                 have H1 : (if 0 ≤ x11_2 then (if x11_2 < (t169.length : Int) then (if (wrap64 (x11_2 + 1)) = (t169.length : Int) then (some (4, t183, x186002_2, x186003_2, x186004_2, 0, 0, rdOf ByteArray.empty t169 x11_2)) else (some (0, 0, 0, 0, 0, 0, 0, (⟨#[]⟩ : ByteArray)))) else (none)) else (none)) = some (r1, r2, r3, r4, r5, r6, r7, r8) := by rw [if_pos rfl] at H; exact H
                                 clear H
                                 have H := H1
                                 clear H1
                                 by_cases c136 : 0 ≤ x11_2
                                 · rw [if_pos c136] at H
                                   have c136b0 : decide (0 ≤ x11_2) = true := decide_eq_true c136
                                   clear c136
                                   by_cases c137 : x11_2 < (t169.length : Int)
                                   · rw [if_pos c137] at H
                                     have c137b0 : decide (x11_2 < (t169.length : Int)) = true := decide_eq_true c137
                                     clear c137
                                     by_cases c138 : (wrap64 (x11_2 + 1)) = (t169.length : Int)
                                     · rw [if_pos c138] at H
                                       have c138b0 : ((wrap64 (x11_2 + 1)) == (t169.length : Int)) = true := beq_iff_eq.mpr c138
                                       have c138b1 : ((wrap64 (x11_2 + 1)) != (t169.length : Int)) = false := bne_eq_false_iff_eq.mpr c138
                                       clear c138
                                       simp only [Option.some.injEq, Prod.mk.injEq] at H
                                       obtain ⟨rfl, rfl, rfl, rfl, rfl, rfl, rfl, rfl⟩ := H
                                       have hnb139 := NB185_167.out
                                       have hnc139 := NB167_185.out
                                       have hnb140 := NB185_168.out
                                       have hnc140 := NB168_185.out
                                       have hcz141_0 : wc.cell? ⟨gb185, 0, none⟩ = some (.int .i64 3) := (blk_cell BK185.out 0).trans rfl
                                       have hcz141_1 : wc.cell? ⟨gb185, 1, none⟩ = some (.int .i64 t183) := (blk_cell BK185.out 1).trans rfl
                                       have hcz141_2 : wc.cell? ⟨gb185, 2, none⟩ = some (.int .i64 x186002_2) := (blk_cell BK185.out 2).trans rfl
                                       have hcz141_3 : wc.cell? ⟨gb185, 3, none⟩ = some (.int .i64 x186003_2) := (blk_cell BK185.out 3).trans rfl
                                       have hcz141_4 : wc.cell? ⟨gb185, 4, none⟩ = some (.int .i64 x186004_2) := (blk_cell BK185.out 4).trans rfl
                                       have hcz141_5 : wc.cell? ⟨gb185, 5, none⟩ = some (.int .i64 0) := (blk_cell BK185.out 5).trans rfl
                                       have hcz141_6 : wc.cell? ⟨gb185, 6, none⟩ = some (.int .u32 0) := (blk_cell BK185.out 6).trans rfl
                                       have hcz141_7 : wc.cell? ⟨gb185, 7, none⟩ = some (.string (⟨#[]⟩ : ByteArray)) := (blk_cell BK185.out 7).trans rfl
                                       have hfz141_0 := blk_frozen BK185.out 0
                                       have hfz141_1 := blk_frozen BK185.out 1
                                       have hfz141_2 := blk_frozen BK185.out 2
                                       have hfz141_3 := blk_frozen BK185.out 3
                                       have hfz141_4 := blk_frozen BK185.out 4
                                       have hfz141_5 := blk_frozen BK185.out 5
                                       have hfz141_6 := blk_frozen BK185.out 6
                                       have hfz141_7 := blk_frozen BK185.out 7
                                       have p196 : 0 ≤ (x11_2 : Int) := of_decide_eq_true (by first | (with_reducible assumption) | assumption)
                                       have q196 : x11_2 < (t169.length : Int) := of_decide_eq_true (by first | (with_reducible assumption) | assumption)
                                       obtain ⟨ad196, e196, hx196_0⟩ := Kd.at_string (Kd.R_reads' HO_4.out).2.2 x11_2 p196 q196
                                       obtain rfl : ad178 = ad196 := (by injection e196)
                                       have hn196_0 : ad178.block ≠ gb185 := Kd.own_blk (Kd.R_ne HO_4.out BK185.out (by decide))
                                       replace hx196_0 := (cell_far (p := ⟨gb185, 0, none⟩) (by first | (rw [add_block]; exact hn196_0) | (show (Addr.add _ _).block ≠ _; rw [add_block]; exact hn196_0) | exact hn196_0) (.int .i64 4)).trans hx196_0
                                       (try have hy196_0 := fun (n_ : Nat) => (show (((wc.drewN n_).setCell ⟨gb185, 0, none⟩ (.int .i64 4))).cell? _ = some _ from hx196_0))
                                       clear hn196_0
                                       replace p196 := eq_true p196
                                       replace q196 := eq_true q196
                                       have hnb142 := NB167_168.out
                                       have hnc142 := NB168_167.out
                                       have hcz143_0 : wc.cell? ⟨gb167, 0, none⟩ = some (.int .i64 x168000_2) := (blk_cell BK167.out 0).trans rfl
                                       have hcz143_1 : wc.cell? ⟨gb167, 1, none⟩ = some (.int .i64 x168001_2) := (blk_cell BK167.out 1).trans rfl
                                       have hcz143_2 : wc.cell? ⟨gb167, 2, none⟩ = some (.int .i64 x168002_2) := (blk_cell BK167.out 2).trans rfl
                                       have hcz143_3 : wc.cell? ⟨gb167, 3, none⟩ = some (.int .i64 x168003_2) := (blk_cell BK167.out 3).trans rfl
                                       have hcz143_4 : wc.cell? ⟨gb167, 4, none⟩ = some (.int .i64 x168004_2) := (blk_cell BK167.out 4).trans rfl
                                       have hcz143_5 : wc.cell? ⟨gb167, 5, none⟩ = some (.int .i64 x168005_2) := (blk_cell BK167.out 5).trans rfl
                                       have hcz143_6 : wc.cell? ⟨gb167, 6, none⟩ = some (.int .u32 x168006_2) := (blk_cell BK167.out 6).trans rfl
                                       have hcz143_7 : wc.cell? ⟨gb167, 7, none⟩ = some (.string x168007_2) := (blk_cell BK167.out 7).trans rfl
                                       have hfz143_0 := blk_frozen BK167.out 0
                                       have hfz143_1 := blk_frozen BK167.out 1
                                       have hfz143_2 := blk_frozen BK167.out 2
                                       have hfz143_3 := blk_frozen BK167.out 3
                                       have hfz143_4 := blk_frozen BK167.out 4
                                       have hfz143_5 := blk_frozen BK167.out 5
                                       have hfz143_6 := blk_frozen BK167.out 6
                                       have hfz143_7 := blk_frozen BK167.out 7
                                       go_wp2
                                       repeat (go_quiet (fail); try go_wp2)
                                       refine bodyPost_ret (results_cell_row rfl _ _ gb167 64 #[.int .i64 4, .int .i64 t183, .int .i64 x186002_2, .int .i64 x186003_2, .int .i64 x186004_2, .int .i64 0, .int .u32 0, .string (rdOf ByteArray.empty t169 x11_2)] (0, 0) _ rfl (by (with_reducible repeat (first | refine blk_drewN ?_ _ | refine blk_drew ?_ | refine blk_alloc ?_ _)); refine blk_put (cs := #[.int .i64 4, .int .i64 t183, .int .i64 x186002_2, .int .i64 x186003_2, .int .i64 x186004_2, .int .i64 0, .int .u32 0, .string x168007_2]) ?_ 7 _ rfl; refine blk_put (cs := #[.int .i64 4, .int .i64 t183, .int .i64 x186002_2, .int .i64 x186003_2, .int .i64 x186004_2, .int .i64 0, .int .u32 x168006_2, .string x168007_2]) ?_ 6 _ rfl; refine blk_put (cs := #[.int .i64 4, .int .i64 t183, .int .i64 x186002_2, .int .i64 x186003_2, .int .i64 x186004_2, .int .i64 x168005_2, .int .u32 x168006_2, .string x168007_2]) ?_ 5 _ rfl; refine blk_put (cs := #[.int .i64 4, .int .i64 t183, .int .i64 x186002_2, .int .i64 x186003_2, .int .i64 x168004_2, .int .i64 x168005_2, .int .u32 x168006_2, .string x168007_2]) ?_ 4 _ rfl; refine blk_put (cs := #[.int .i64 4, .int .i64 t183, .int .i64 x186002_2, .int .i64 x168003_2, .int .i64 x168004_2, .int .i64 x168005_2, .int .u32 x168006_2, .string x168007_2]) ?_ 3 _ rfl; refine blk_put (cs := #[.int .i64 4, .int .i64 t183, .int .i64 x168002_2, .int .i64 x168003_2, .int .i64 x168004_2, .int .i64 x168005_2, .int .u32 x168006_2, .string x168007_2]) ?_ 2 _ rfl; refine blk_put (cs := #[.int .i64 4, .int .i64 x168001_2, .int .i64 x168002_2, .int .i64 x168003_2, .int .i64 x168004_2, .int .i64 x168005_2, .int .u32 x168006_2, .string x168007_2]) ?_ 1 _ rfl; refine blk_put (cs := #[.int .i64 x168000_2, .int .i64 x168001_2, .int .i64 x168002_2, .int .i64 x168003_2, .int .i64 x168004_2, .int .i64 x168005_2, .int .u32 x168006_2, .string x168007_2]) ?_ 0 _ rfl; (with_reducible repeat (first | refine blk_drewN ?_ _ | refine blk_drew ?_ | refine blk_alloc ?_ _)); refine blk_far ?_ NB167_185.out _; (with_reducible repeat (first | refine blk_drewN ?_ _ | refine blk_drew ?_ | refine blk_alloc ?_ _)); refine blk_far ?_ NB167_185.out _; (with_reducible repeat (first | refine blk_drewN ?_ _ | refine blk_drew ?_ | refine blk_alloc ?_ _)); exact BK167.out) Tryz.underlying64 rfl (by kernel_rfl)) rfl ?_
                                       exact ⟨by first | rfl | (simp [errW_none, errW_some] <;> rfl) | (simp [*, errW_none, errW_some] <;> rfl), by repeat (first | (with_reducible first | exact HB.out | apply below_alloc | apply pw_below_drewN | apply below_drew1 | refine below_set ?_ GE167.out | refine below_set ?_ GE168.out | refine below_set ?_ GE185.out) | exact HB.out)⟩
                                     · rw [if_neg c138] at H
                                       have c138b0 : ((wrap64 (x11_2 + 1)) == (t169.length : Int)) = false := beq_eq_false_iff_ne.mpr c138
                                       have c138b1 : ((wrap64 (x11_2 + 1)) != (t169.length : Int)) = true := bne_iff_ne.mpr c138
                                       simp only [Option.some.injEq, Prod.mk.injEq] at H
                                       obtain ⟨rfl, rfl, rfl, rfl, rfl, rfl, rfl, rfl⟩ := H
                                       have hnb144 := NB185_167.out
                                       have hnc144 := NB167_185.out
                                       have hnb145 := NB185_168.out
                                       have hnc145 := NB168_185.out
                                       have hcz146_0 : wc.cell? ⟨gb185, 0, none⟩ = some (.int .i64 3) := (blk_cell BK185.out 0).trans rfl
                                       have hcz146_1 : wc.cell? ⟨gb185, 1, none⟩ = some (.int .i64 t183) := (blk_cell BK185.out 1).trans rfl
                                       have hcz146_2 : wc.cell? ⟨gb185, 2, none⟩ = some (.int .i64 x186002_2) := (blk_cell BK185.out 2).trans rfl
                                       have hcz146_3 : wc.cell? ⟨gb185, 3, none⟩ = some (.int .i64 x186003_2) := (blk_cell BK185.out 3).trans rfl
                                       have hcz146_4 : wc.cell? ⟨gb185, 4, none⟩ = some (.int .i64 x186004_2) := (blk_cell BK185.out 4).trans rfl
                                       have hcz146_5 : wc.cell? ⟨gb185, 5, none⟩ = some (.int .i64 0) := (blk_cell BK185.out 5).trans rfl
                                       have hcz146_6 : wc.cell? ⟨gb185, 6, none⟩ = some (.int .u32 0) := (blk_cell BK185.out 6).trans rfl
                                       have hcz146_7 : wc.cell? ⟨gb185, 7, none⟩ = some (.string (⟨#[]⟩ : ByteArray)) := (blk_cell BK185.out 7).trans rfl
                                       have hfz146_0 := blk_frozen BK185.out 0
                                       have hfz146_1 := blk_frozen BK185.out 1
                                       have hfz146_2 := blk_frozen BK185.out 2
                                       have hfz146_3 := blk_frozen BK185.out 3
                                       have hfz146_4 := blk_frozen BK185.out 4
                                       have hfz146_5 := blk_frozen BK185.out 5
                                       have hfz146_6 := blk_frozen BK185.out 6
                                       have hfz146_7 := blk_frozen BK185.out 7
                                       have p196 : 0 ≤ (x11_2 : Int) := of_decide_eq_true (by first | (with_reducible assumption) | assumption)
                                       have q196 : x11_2 < (t169.length : Int) := of_decide_eq_true (by first | (with_reducible assumption) | assumption)
                                       obtain ⟨ad196, e196, hx196_0⟩ := Kd.at_string (Kd.R_reads' HO_4.out).2.2 x11_2 p196 q196
                                       obtain rfl : ad178 = ad196 := (by injection e196)
                                       have hn196_0 : ad178.block ≠ gb185 := Kd.own_blk (Kd.R_ne HO_4.out BK185.out (by decide))
                                       replace hx196_0 := (cell_far (p := ⟨gb185, 0, none⟩) (by first | (rw [add_block]; exact hn196_0) | (show (Addr.add _ _).block ≠ _; rw [add_block]; exact hn196_0) | exact hn196_0) (.int .i64 4)).trans hx196_0
                                       (try have hy196_0 := fun (n_ : Nat) => (show (((wc.drewN n_).setCell ⟨gb185, 0, none⟩ (.int .i64 4))).cell? _ = some _ from hx196_0))
                                       clear hn196_0
                                       replace p196 := eq_true p196
                                       replace q196 := eq_true q196
                                       have hnb147 := NB168_167.out
                                       have hnc147 := NB167_168.out
                                       have hcz148_0 : wc.cell? ⟨gb168, 0, none⟩ = some (.int .i64 0) := (blk_cell BK168.out 0).trans rfl
                                       have hcz148_1 : wc.cell? ⟨gb168, 1, none⟩ = some (.int .i64 0) := (blk_cell BK168.out 1).trans rfl
                                       have hcz148_2 : wc.cell? ⟨gb168, 2, none⟩ = some (.int .i64 0) := (blk_cell BK168.out 2).trans rfl
                                       have hcz148_3 : wc.cell? ⟨gb168, 3, none⟩ = some (.int .i64 0) := (blk_cell BK168.out 3).trans rfl
                                       have hcz148_4 : wc.cell? ⟨gb168, 4, none⟩ = some (.int .i64 0) := (blk_cell BK168.out 4).trans rfl
                                       have hcz148_5 : wc.cell? ⟨gb168, 5, none⟩ = some (.int .i64 0) := (blk_cell BK168.out 5).trans rfl
                                       have hcz148_6 : wc.cell? ⟨gb168, 6, none⟩ = some (.int .u32 0) := (blk_cell BK168.out 6).trans rfl
                                       have hcz148_7 : wc.cell? ⟨gb168, 7, none⟩ = some (.string (⟨#[]⟩ : ByteArray)) := (blk_cell BK168.out 7).trans rfl
                                       have hfz148_0 := blk_frozen BK168.out 0
                                       have hfz148_1 := blk_frozen BK168.out 1
                                       have hfz148_2 := blk_frozen BK168.out 2
                                       have hfz148_3 := blk_frozen BK168.out 3
                                       have hfz148_4 := blk_frozen BK168.out 4
                                       have hfz148_5 := blk_frozen BK168.out 5
                                       have hfz148_6 := blk_frozen BK168.out 6
                                       have hfz148_7 := blk_frozen BK168.out 7
                                       have hcz149_0 : wc.cell? ⟨gb167, 0, none⟩ = some (.int .i64 x168000_2) := (blk_cell BK167.out 0).trans rfl
                                       have hcz149_1 : wc.cell? ⟨gb167, 1, none⟩ = some (.int .i64 x168001_2) := (blk_cell BK167.out 1).trans rfl
                                       have hcz149_2 : wc.cell? ⟨gb167, 2, none⟩ = some (.int .i64 x168002_2) := (blk_cell BK167.out 2).trans rfl
                                       have hcz149_3 : wc.cell? ⟨gb167, 3, none⟩ = some (.int .i64 x168003_2) := (blk_cell BK167.out 3).trans rfl
                                       have hcz149_4 : wc.cell? ⟨gb167, 4, none⟩ = some (.int .i64 x168004_2) := (blk_cell BK167.out 4).trans rfl
                                       have hcz149_5 : wc.cell? ⟨gb167, 5, none⟩ = some (.int .i64 x168005_2) := (blk_cell BK167.out 5).trans rfl
                                       have hcz149_6 : wc.cell? ⟨gb167, 6, none⟩ = some (.int .u32 x168006_2) := (blk_cell BK167.out 6).trans rfl
                                       have hcz149_7 : wc.cell? ⟨gb167, 7, none⟩ = some (.string x168007_2) := (blk_cell BK167.out 7).trans rfl
                                       have hfz149_0 := blk_frozen BK167.out 0
                                       have hfz149_1 := blk_frozen BK167.out 1
                                       have hfz149_2 := blk_frozen BK167.out 2
                                       have hfz149_3 := blk_frozen BK167.out 3
                                       have hfz149_4 := blk_frozen BK167.out 4
                                       have hfz149_5 := blk_frozen BK167.out 5
                                       have hfz149_6 := blk_frozen BK167.out 6
                                       have hfz149_7 := blk_frozen BK167.out 7
                                       go_wp2
                                       repeat (go_quiet (fail); try go_wp2)
                                       refine bodyPost_ret (results_cell_row rfl _ _ gb167 64 #[.int .i64 0, .int .i64 0, .int .i64 0, .int .i64 0, .int .i64 0, .int .i64 0, .int .u32 0, .string (⟨#[]⟩ : ByteArray)] (0, 0) _ rfl (by (with_reducible repeat (first | refine blk_drewN ?_ _ | refine blk_drew ?_ | refine blk_alloc ?_ _)); refine blk_put (cs := #[.int .i64 0, .int .i64 0, .int .i64 0, .int .i64 0, .int .i64 0, .int .i64 0, .int .u32 0, .string x168007_2]) ?_ 7 _ rfl; refine blk_put (cs := #[.int .i64 0, .int .i64 0, .int .i64 0, .int .i64 0, .int .i64 0, .int .i64 0, .int .u32 x168006_2, .string x168007_2]) ?_ 6 _ rfl; refine blk_put (cs := #[.int .i64 0, .int .i64 0, .int .i64 0, .int .i64 0, .int .i64 0, .int .i64 x168005_2, .int .u32 x168006_2, .string x168007_2]) ?_ 5 _ rfl; refine blk_put (cs := #[.int .i64 0, .int .i64 0, .int .i64 0, .int .i64 0, .int .i64 x168004_2, .int .i64 x168005_2, .int .u32 x168006_2, .string x168007_2]) ?_ 4 _ rfl; refine blk_put (cs := #[.int .i64 0, .int .i64 0, .int .i64 0, .int .i64 x168003_2, .int .i64 x168004_2, .int .i64 x168005_2, .int .u32 x168006_2, .string x168007_2]) ?_ 3 _ rfl; refine blk_put (cs := #[.int .i64 0, .int .i64 0, .int .i64 x168002_2, .int .i64 x168003_2, .int .i64 x168004_2, .int .i64 x168005_2, .int .u32 x168006_2, .string x168007_2]) ?_ 2 _ rfl; refine blk_put (cs := #[.int .i64 0, .int .i64 x168001_2, .int .i64 x168002_2, .int .i64 x168003_2, .int .i64 x168004_2, .int .i64 x168005_2, .int .u32 x168006_2, .string x168007_2]) ?_ 1 _ rfl; refine blk_put (cs := #[.int .i64 x168000_2, .int .i64 x168001_2, .int .i64 x168002_2, .int .i64 x168003_2, .int .i64 x168004_2, .int .i64 x168005_2, .int .u32 x168006_2, .string x168007_2]) ?_ 0 _ rfl; (with_reducible repeat (first | refine blk_drewN ?_ _ | refine blk_drew ?_ | refine blk_alloc ?_ _)); refine blk_far ?_ NB167_185.out _; (with_reducible repeat (first | refine blk_drewN ?_ _ | refine blk_drew ?_ | refine blk_alloc ?_ _)); refine blk_far ?_ NB167_185.out _; (with_reducible repeat (first | refine blk_drewN ?_ _ | refine blk_drew ?_ | refine blk_alloc ?_ _)); exact BK167.out) Tryz.underlying64 rfl (by kernel_rfl)) rfl ?_
                                       exact ⟨by first | rfl | (simp [errW_none, errW_some] <;> rfl) | (simp [*, errW_none, errW_some] <;> rfl), by repeat (first | (with_reducible first | exact HB.out | apply below_alloc | apply pw_below_drewN | apply below_drew1 | refine below_set ?_ GE167.out | refine below_set ?_ GE168.out | refine below_set ?_ GE185.out) | exact HB.out)⟩
                                   · rw [if_neg c137] at H
                                     exact absurd H (by simp)
                                 · rw [if_neg c136] at H
                                   exact absurd H (by simp)
                               · replace c135 := Bool.eq_false_iff.mpr c135
                                 subst c135
                                 have H1 : (some (0, 0, 0, 0, 0, 0, 0, (⟨#[]⟩ : ByteArray))) = some (r1, r2, r3, r4, r5, r6, r7, r8) := by rw [if_neg (show ¬ (false = true) by decide)] at H; exact H
                                 clear H
                                 have H := H1
                                 clear H1
                                 simp only [Option.some.injEq, Prod.mk.injEq] at H
                                 obtain ⟨rfl, rfl, rfl, rfl, rfl, rfl, rfl, rfl⟩ := H
                                 have hnb150 := NB168_167.out
                                 have hnc150 := NB167_168.out
                                 have hnb151 := NB168_185.out
                                 have hnc151 := NB185_168.out
                                 have hcz152_0 : wc.cell? ⟨gb168, 0, none⟩ = some (.int .i64 0) := (blk_cell BK168.out 0).trans rfl
                                 have hcz152_1 : wc.cell? ⟨gb168, 1, none⟩ = some (.int .i64 0) := (blk_cell BK168.out 1).trans rfl
                                 have hcz152_2 : wc.cell? ⟨gb168, 2, none⟩ = some (.int .i64 0) := (blk_cell BK168.out 2).trans rfl
                                 have hcz152_3 : wc.cell? ⟨gb168, 3, none⟩ = some (.int .i64 0) := (blk_cell BK168.out 3).trans rfl
                                 have hcz152_4 : wc.cell? ⟨gb168, 4, none⟩ = some (.int .i64 0) := (blk_cell BK168.out 4).trans rfl
                                 have hcz152_5 : wc.cell? ⟨gb168, 5, none⟩ = some (.int .i64 0) := (blk_cell BK168.out 5).trans rfl
                                 have hcz152_6 : wc.cell? ⟨gb168, 6, none⟩ = some (.int .u32 0) := (blk_cell BK168.out 6).trans rfl
                                 have hcz152_7 : wc.cell? ⟨gb168, 7, none⟩ = some (.string (⟨#[]⟩ : ByteArray)) := (blk_cell BK168.out 7).trans rfl
                                 have hfz152_0 := blk_frozen BK168.out 0
                                 have hfz152_1 := blk_frozen BK168.out 1
                                 have hfz152_2 := blk_frozen BK168.out 2
                                 have hfz152_3 := blk_frozen BK168.out 3
                                 have hfz152_4 := blk_frozen BK168.out 4
                                 have hfz152_5 := blk_frozen BK168.out 5
                                 have hfz152_6 := blk_frozen BK168.out 6
                                 have hfz152_7 := blk_frozen BK168.out 7
                                 have hnb153 := NB167_185.out
                                 have hnc153 := NB185_167.out
                                 have hcz154_0 : wc.cell? ⟨gb167, 0, none⟩ = some (.int .i64 x168000_2) := (blk_cell BK167.out 0).trans rfl
                                 have hcz154_1 : wc.cell? ⟨gb167, 1, none⟩ = some (.int .i64 x168001_2) := (blk_cell BK167.out 1).trans rfl
                                 have hcz154_2 : wc.cell? ⟨gb167, 2, none⟩ = some (.int .i64 x168002_2) := (blk_cell BK167.out 2).trans rfl
                                 have hcz154_3 : wc.cell? ⟨gb167, 3, none⟩ = some (.int .i64 x168003_2) := (blk_cell BK167.out 3).trans rfl
                                 have hcz154_4 : wc.cell? ⟨gb167, 4, none⟩ = some (.int .i64 x168004_2) := (blk_cell BK167.out 4).trans rfl
                                 have hcz154_5 : wc.cell? ⟨gb167, 5, none⟩ = some (.int .i64 x168005_2) := (blk_cell BK167.out 5).trans rfl
                                 have hcz154_6 : wc.cell? ⟨gb167, 6, none⟩ = some (.int .u32 x168006_2) := (blk_cell BK167.out 6).trans rfl
                                 have hcz154_7 : wc.cell? ⟨gb167, 7, none⟩ = some (.string x168007_2) := (blk_cell BK167.out 7).trans rfl
                                 have hfz154_0 := blk_frozen BK167.out 0
                                 have hfz154_1 := blk_frozen BK167.out 1
                                 have hfz154_2 := blk_frozen BK167.out 2
                                 have hfz154_3 := blk_frozen BK167.out 3
                                 have hfz154_4 := blk_frozen BK167.out 4
                                 have hfz154_5 := blk_frozen BK167.out 5
                                 have hfz154_6 := blk_frozen BK167.out 6
                                 have hfz154_7 := blk_frozen BK167.out 7
                                 go_wp2
                                 repeat (go_quiet (fail); try go_wp2)
                                 refine bodyPost_ret (results_cell_row rfl _ _ gb167 64 #[.int .i64 0, .int .i64 0, .int .i64 0, .int .i64 0, .int .i64 0, .int .i64 0, .int .u32 0, .string (⟨#[]⟩ : ByteArray)] (0, 0) _ rfl (by (with_reducible repeat (first | refine blk_drewN ?_ _ | refine blk_drew ?_ | refine blk_alloc ?_ _)); refine blk_put (cs := #[.int .i64 0, .int .i64 0, .int .i64 0, .int .i64 0, .int .i64 0, .int .i64 0, .int .u32 0, .string x168007_2]) ?_ 7 _ rfl; refine blk_put (cs := #[.int .i64 0, .int .i64 0, .int .i64 0, .int .i64 0, .int .i64 0, .int .i64 0, .int .u32 x168006_2, .string x168007_2]) ?_ 6 _ rfl; refine blk_put (cs := #[.int .i64 0, .int .i64 0, .int .i64 0, .int .i64 0, .int .i64 0, .int .i64 x168005_2, .int .u32 x168006_2, .string x168007_2]) ?_ 5 _ rfl; refine blk_put (cs := #[.int .i64 0, .int .i64 0, .int .i64 0, .int .i64 0, .int .i64 x168004_2, .int .i64 x168005_2, .int .u32 x168006_2, .string x168007_2]) ?_ 4 _ rfl; refine blk_put (cs := #[.int .i64 0, .int .i64 0, .int .i64 0, .int .i64 x168003_2, .int .i64 x168004_2, .int .i64 x168005_2, .int .u32 x168006_2, .string x168007_2]) ?_ 3 _ rfl; refine blk_put (cs := #[.int .i64 0, .int .i64 0, .int .i64 x168002_2, .int .i64 x168003_2, .int .i64 x168004_2, .int .i64 x168005_2, .int .u32 x168006_2, .string x168007_2]) ?_ 2 _ rfl; refine blk_put (cs := #[.int .i64 0, .int .i64 x168001_2, .int .i64 x168002_2, .int .i64 x168003_2, .int .i64 x168004_2, .int .i64 x168005_2, .int .u32 x168006_2, .string x168007_2]) ?_ 1 _ rfl; refine blk_put (cs := #[.int .i64 x168000_2, .int .i64 x168001_2, .int .i64 x168002_2, .int .i64 x168003_2, .int .i64 x168004_2, .int .i64 x168005_2, .int .u32 x168006_2, .string x168007_2]) ?_ 0 _ rfl; (with_reducible repeat (first | refine blk_drewN ?_ _ | refine blk_drew ?_ | refine blk_alloc ?_ _)); exact BK167.out) Tryz.underlying64 rfl (by kernel_rfl)) rfl ?_
                                 exact ⟨by first | rfl | (simp [errW_none, errW_some] <;> rfl) | (simp [*, errW_none, errW_some] <;> rfl), by repeat (first | (with_reducible first | exact HB.out | apply below_alloc | apply pw_below_drewN | apply below_drew1 | refine below_set ?_ GE167.out | refine below_set ?_ GE168.out | refine below_set ?_ GE185.out) | exact HB.out)⟩
                       · rw [if_neg c112] at H
                         exact absurd H (by simp)
                     · rw [if_neg c111] at H
                       exact absurd H (by simp)
                 · rw [if_neg c104] at H
                   have c104b0 : ((Int.tmod (wrap64 (Int.tdiv t184 8)) 2) == 1) = false := beq_eq_false_iff_ne.mpr c104
                   have c104b1 : ((Int.tmod (wrap64 (Int.tdiv t184 8)) 2) != 1) = true := bne_iff_ne.mpr c104
                   by_cases c155 : x11_2 = (t169.length : Int)
                   · rw [if_pos c155] at H
                     have c155b0 : (x11_2 == (t169.length : Int)) = true := beq_iff_eq.mpr c155
                     have c155b1 : (x11_2 != (t169.length : Int)) = false := bne_eq_false_iff_eq.mpr c155
                     clear c155
                     simp only [Option.some.injEq, Prod.mk.injEq] at H
                     obtain ⟨rfl, rfl, rfl, rfl, rfl, rfl, rfl, rfl⟩ := H
                     have hnb156 := NB185_167.out
                     have hnc156 := NB167_185.out
                     have hnb157 := NB185_168.out
                     have hnc157 := NB168_185.out
                     have hcz158_0 : wr.cell? ⟨gb185, 0, none⟩ = some (.int .i64 3) := (blk_cell BK185.out 0).trans rfl
                     have hcz158_1 : wr.cell? ⟨gb185, 1, none⟩ = some (.int .i64 t183) := (blk_cell BK185.out 1).trans rfl
                     have hcz158_2 : wr.cell? ⟨gb185, 2, none⟩ = some (.int .i64 x186002_2) := (blk_cell BK185.out 2).trans rfl
                     have hcz158_3 : wr.cell? ⟨gb185, 3, none⟩ = some (.int .i64 x186003_2) := (blk_cell BK185.out 3).trans rfl
                     have hcz158_4 : wr.cell? ⟨gb185, 4, none⟩ = some (.int .i64 x186004_2) := (blk_cell BK185.out 4).trans rfl
                     have hcz158_5 : wr.cell? ⟨gb185, 5, none⟩ = some (.int .i64 0) := (blk_cell BK185.out 5).trans rfl
                     have hcz158_6 : wr.cell? ⟨gb185, 6, none⟩ = some (.int .u32 0) := (blk_cell BK185.out 6).trans rfl
                     have hcz158_7 : wr.cell? ⟨gb185, 7, none⟩ = some (.string (⟨#[]⟩ : ByteArray)) := (blk_cell BK185.out 7).trans rfl
                     have hfz158_0 := blk_frozen BK185.out 0
                     have hfz158_1 := blk_frozen BK185.out 1
                     have hfz158_2 := blk_frozen BK185.out 2
                     have hfz158_3 := blk_frozen BK185.out 3
                     have hfz158_4 := blk_frozen BK185.out 4
                     have hfz158_5 := blk_frozen BK185.out 5
                     have hfz158_6 := blk_frozen BK185.out 6
                     have hfz158_7 := blk_frozen BK185.out 7
                     have hnb159 := NB167_168.out
                     have hnc159 := NB168_167.out
                     have hcz160_0 : wr.cell? ⟨gb167, 0, none⟩ = some (.int .i64 x168000_2) := (blk_cell BK167.out 0).trans rfl
                     have hcz160_1 : wr.cell? ⟨gb167, 1, none⟩ = some (.int .i64 x168001_2) := (blk_cell BK167.out 1).trans rfl
                     have hcz160_2 : wr.cell? ⟨gb167, 2, none⟩ = some (.int .i64 x168002_2) := (blk_cell BK167.out 2).trans rfl
                     have hcz160_3 : wr.cell? ⟨gb167, 3, none⟩ = some (.int .i64 x168003_2) := (blk_cell BK167.out 3).trans rfl
                     have hcz160_4 : wr.cell? ⟨gb167, 4, none⟩ = some (.int .i64 x168004_2) := (blk_cell BK167.out 4).trans rfl
                     have hcz160_5 : wr.cell? ⟨gb167, 5, none⟩ = some (.int .i64 x168005_2) := (blk_cell BK167.out 5).trans rfl
                     have hcz160_6 : wr.cell? ⟨gb167, 6, none⟩ = some (.int .u32 x168006_2) := (blk_cell BK167.out 6).trans rfl
                     have hcz160_7 : wr.cell? ⟨gb167, 7, none⟩ = some (.string x168007_2) := (blk_cell BK167.out 7).trans rfl
                     have hfz160_0 := blk_frozen BK167.out 0
                     have hfz160_1 := blk_frozen BK167.out 1
                     have hfz160_2 := blk_frozen BK167.out 2
                     have hfz160_3 := blk_frozen BK167.out 3
                     have hfz160_4 := blk_frozen BK167.out 4
                     have hfz160_5 := blk_frozen BK167.out 5
                     have hfz160_6 := blk_frozen BK167.out 6
                     have hfz160_7 := blk_frozen BK167.out 7
                     go_wp2
                     repeat (go_quiet (fail); try go_wp2)
                     refine bodyPost_ret (results_cell_row rfl _ _ gb167 64 #[.int .i64 3, .int .i64 t183, .int .i64 x186002_2, .int .i64 x186003_2, .int .i64 x186004_2, .int .i64 0, .int .u32 0, .string (⟨#[]⟩ : ByteArray)] (0, 0) _ rfl (by (with_reducible repeat (first | refine blk_drewN ?_ _ | refine blk_drew ?_ | refine blk_alloc ?_ _)); refine blk_put (cs := #[.int .i64 3, .int .i64 t183, .int .i64 x186002_2, .int .i64 x186003_2, .int .i64 x186004_2, .int .i64 0, .int .u32 0, .string x168007_2]) ?_ 7 _ rfl; refine blk_put (cs := #[.int .i64 3, .int .i64 t183, .int .i64 x186002_2, .int .i64 x186003_2, .int .i64 x186004_2, .int .i64 0, .int .u32 x168006_2, .string x168007_2]) ?_ 6 _ rfl; refine blk_put (cs := #[.int .i64 3, .int .i64 t183, .int .i64 x186002_2, .int .i64 x186003_2, .int .i64 x186004_2, .int .i64 x168005_2, .int .u32 x168006_2, .string x168007_2]) ?_ 5 _ rfl; refine blk_put (cs := #[.int .i64 3, .int .i64 t183, .int .i64 x186002_2, .int .i64 x186003_2, .int .i64 x168004_2, .int .i64 x168005_2, .int .u32 x168006_2, .string x168007_2]) ?_ 4 _ rfl; refine blk_put (cs := #[.int .i64 3, .int .i64 t183, .int .i64 x186002_2, .int .i64 x168003_2, .int .i64 x168004_2, .int .i64 x168005_2, .int .u32 x168006_2, .string x168007_2]) ?_ 3 _ rfl; refine blk_put (cs := #[.int .i64 3, .int .i64 t183, .int .i64 x168002_2, .int .i64 x168003_2, .int .i64 x168004_2, .int .i64 x168005_2, .int .u32 x168006_2, .string x168007_2]) ?_ 2 _ rfl; refine blk_put (cs := #[.int .i64 3, .int .i64 x168001_2, .int .i64 x168002_2, .int .i64 x168003_2, .int .i64 x168004_2, .int .i64 x168005_2, .int .u32 x168006_2, .string x168007_2]) ?_ 1 _ rfl; refine blk_put (cs := #[.int .i64 x168000_2, .int .i64 x168001_2, .int .i64 x168002_2, .int .i64 x168003_2, .int .i64 x168004_2, .int .i64 x168005_2, .int .u32 x168006_2, .string x168007_2]) ?_ 0 _ rfl; (with_reducible repeat (first | refine blk_drewN ?_ _ | refine blk_drew ?_ | refine blk_alloc ?_ _)); exact BK167.out) Tryz.underlying64 rfl (by kernel_rfl)) rfl ?_
                     exact ⟨by first | rfl | (simp [errW_none, errW_some] <;> rfl) | (simp [*, errW_none, errW_some] <;> rfl), by repeat (first | (with_reducible first | exact HB.out | apply below_alloc | apply pw_below_drewN | apply below_drew1 | refine below_set ?_ GE167.out | refine below_set ?_ GE168.out | refine below_set ?_ GE185.out) | exact HB.out)⟩
                   · rw [if_neg c155] at H
                     have c155b0 : (x11_2 == (t169.length : Int)) = false := beq_eq_false_iff_ne.mpr c155
                     have c155b1 : (x11_2 != (t169.length : Int)) = true := bne_iff_ne.mpr c155
                     simp only [Option.some.injEq, Prod.mk.injEq] at H
                     obtain ⟨rfl, rfl, rfl, rfl, rfl, rfl, rfl, rfl⟩ := H
                     have hnb161 := NB168_167.out
                     have hnc161 := NB167_168.out
                     have hnb162 := NB168_185.out
                     have hnc162 := NB185_168.out
                     have hcz163_0 : wr.cell? ⟨gb168, 0, none⟩ = some (.int .i64 0) := (blk_cell BK168.out 0).trans rfl
                     have hcz163_1 : wr.cell? ⟨gb168, 1, none⟩ = some (.int .i64 0) := (blk_cell BK168.out 1).trans rfl
                     have hcz163_2 : wr.cell? ⟨gb168, 2, none⟩ = some (.int .i64 0) := (blk_cell BK168.out 2).trans rfl
                     have hcz163_3 : wr.cell? ⟨gb168, 3, none⟩ = some (.int .i64 0) := (blk_cell BK168.out 3).trans rfl
                     have hcz163_4 : wr.cell? ⟨gb168, 4, none⟩ = some (.int .i64 0) := (blk_cell BK168.out 4).trans rfl
                     have hcz163_5 : wr.cell? ⟨gb168, 5, none⟩ = some (.int .i64 0) := (blk_cell BK168.out 5).trans rfl
                     have hcz163_6 : wr.cell? ⟨gb168, 6, none⟩ = some (.int .u32 0) := (blk_cell BK168.out 6).trans rfl
                     have hcz163_7 : wr.cell? ⟨gb168, 7, none⟩ = some (.string (⟨#[]⟩ : ByteArray)) := (blk_cell BK168.out 7).trans rfl
                     have hfz163_0 := blk_frozen BK168.out 0
                     have hfz163_1 := blk_frozen BK168.out 1
                     have hfz163_2 := blk_frozen BK168.out 2
                     have hfz163_3 := blk_frozen BK168.out 3
                     have hfz163_4 := blk_frozen BK168.out 4
                     have hfz163_5 := blk_frozen BK168.out 5
                     have hfz163_6 := blk_frozen BK168.out 6
                     have hfz163_7 := blk_frozen BK168.out 7
                     have hnb164 := NB167_185.out
                     have hnc164 := NB185_167.out
                     have hcz165_0 : wr.cell? ⟨gb167, 0, none⟩ = some (.int .i64 x168000_2) := (blk_cell BK167.out 0).trans rfl
                     have hcz165_1 : wr.cell? ⟨gb167, 1, none⟩ = some (.int .i64 x168001_2) := (blk_cell BK167.out 1).trans rfl
                     have hcz165_2 : wr.cell? ⟨gb167, 2, none⟩ = some (.int .i64 x168002_2) := (blk_cell BK167.out 2).trans rfl
                     have hcz165_3 : wr.cell? ⟨gb167, 3, none⟩ = some (.int .i64 x168003_2) := (blk_cell BK167.out 3).trans rfl
                     have hcz165_4 : wr.cell? ⟨gb167, 4, none⟩ = some (.int .i64 x168004_2) := (blk_cell BK167.out 4).trans rfl
                     have hcz165_5 : wr.cell? ⟨gb167, 5, none⟩ = some (.int .i64 x168005_2) := (blk_cell BK167.out 5).trans rfl
                     have hcz165_6 : wr.cell? ⟨gb167, 6, none⟩ = some (.int .u32 x168006_2) := (blk_cell BK167.out 6).trans rfl
                     have hcz165_7 : wr.cell? ⟨gb167, 7, none⟩ = some (.string x168007_2) := (blk_cell BK167.out 7).trans rfl
                     have hfz165_0 := blk_frozen BK167.out 0
                     have hfz165_1 := blk_frozen BK167.out 1
                     have hfz165_2 := blk_frozen BK167.out 2
                     have hfz165_3 := blk_frozen BK167.out 3
                     have hfz165_4 := blk_frozen BK167.out 4
                     have hfz165_5 := blk_frozen BK167.out 5
                     have hfz165_6 := blk_frozen BK167.out 6
                     have hfz165_7 := blk_frozen BK167.out 7
                     go_wp2
                     repeat (go_quiet (fail); try go_wp2)
                     refine bodyPost_ret (results_cell_row rfl _ _ gb167 64 #[.int .i64 0, .int .i64 0, .int .i64 0, .int .i64 0, .int .i64 0, .int .i64 0, .int .u32 0, .string (⟨#[]⟩ : ByteArray)] (0, 0) _ rfl (by (with_reducible repeat (first | refine blk_drewN ?_ _ | refine blk_drew ?_ | refine blk_alloc ?_ _)); refine blk_put (cs := #[.int .i64 0, .int .i64 0, .int .i64 0, .int .i64 0, .int .i64 0, .int .i64 0, .int .u32 0, .string x168007_2]) ?_ 7 _ rfl; refine blk_put (cs := #[.int .i64 0, .int .i64 0, .int .i64 0, .int .i64 0, .int .i64 0, .int .i64 0, .int .u32 x168006_2, .string x168007_2]) ?_ 6 _ rfl; refine blk_put (cs := #[.int .i64 0, .int .i64 0, .int .i64 0, .int .i64 0, .int .i64 0, .int .i64 x168005_2, .int .u32 x168006_2, .string x168007_2]) ?_ 5 _ rfl; refine blk_put (cs := #[.int .i64 0, .int .i64 0, .int .i64 0, .int .i64 0, .int .i64 x168004_2, .int .i64 x168005_2, .int .u32 x168006_2, .string x168007_2]) ?_ 4 _ rfl; refine blk_put (cs := #[.int .i64 0, .int .i64 0, .int .i64 0, .int .i64 x168003_2, .int .i64 x168004_2, .int .i64 x168005_2, .int .u32 x168006_2, .string x168007_2]) ?_ 3 _ rfl; refine blk_put (cs := #[.int .i64 0, .int .i64 0, .int .i64 x168002_2, .int .i64 x168003_2, .int .i64 x168004_2, .int .i64 x168005_2, .int .u32 x168006_2, .string x168007_2]) ?_ 2 _ rfl; refine blk_put (cs := #[.int .i64 0, .int .i64 x168001_2, .int .i64 x168002_2, .int .i64 x168003_2, .int .i64 x168004_2, .int .i64 x168005_2, .int .u32 x168006_2, .string x168007_2]) ?_ 1 _ rfl; refine blk_put (cs := #[.int .i64 x168000_2, .int .i64 x168001_2, .int .i64 x168002_2, .int .i64 x168003_2, .int .i64 x168004_2, .int .i64 x168005_2, .int .u32 x168006_2, .string x168007_2]) ?_ 0 _ rfl; (with_reducible repeat (first | refine blk_drewN ?_ _ | refine blk_drew ?_ | refine blk_alloc ?_ _)); exact BK167.out) Tryz.underlying64 rfl (by kernel_rfl)) rfl ?_
                     exact ⟨by first | rfl | (simp [errW_none, errW_some] <;> rfl) | (simp [*, errW_none, errW_some] <;> rfl), by repeat (first | (with_reducible first | exact HB.out | apply below_alloc | apply pw_below_drewN | apply below_drew1 | refine below_set ?_ GE167.out | refine below_set ?_ GE168.out | refine below_set ?_ GE185.out) | exact HB.out)⟩
       · rw [if_neg c39] at H
         exact absurd H (by simp)

end Go.Proofs.YtaophlekfepkgaaGreatDoor.PFnExactLabelsOf

/- The walk of laws.FnExactCacheEmpty (function 5), by hand, over the printed contracts and markCache's. Printed by gen_emptylaw.py. -/
import Derived.Test.YtboginbepgopeaaMarkFnExactCacheEmpty
import Derived.Test.YtboginbepgopeaaPFnExactCacheEmptyx
namespace Go.Proofs.Ytboginbepgopeaa.PFnExactCacheEmpty
open Go.RowKit Go.Proofs.YtboginbepgopeaaW.PrintWords Go.Proofs.YtboginbepgopeaaW.PrintLast Go.Proofs.YtboginbepgopeaaW.PrintMore
attribute [local go_sem] max2_int min2_int max_two min_two max_three min_three max_four min_four
set_option linter.unusedVariables false
set_option linter.unusedSimpArgs false

set_option maxHeartbeats 8000000 in
set_option maxRecDepth 100000 in
theorem laws_FnExactCacheEmpty.walk1 (k : Nat) (a b c r1 r2 r3 m : Int) (r4 l' : List (List (S103))) (w : World) (h1 : spec_CacheEmpty.f k a b c = some (r1, r2, r3, r4)) (h2 : impl_CacheEmpty.f a b c = some (r1, r2, r3, r4))
    (h3 : laws_eqCache.f k r1 r2 r3 r4 r1 r2 r3 r4 = some true) (h4 : laws_markWaySS.f k r4 1 = some (m, l')) (h5 : laws_heldCache.f k r1 r2 r3 l' 1 = some m) (hm : ¬ m < 0) :
    Calls Try.prog 5 #[.agg #[.int .i64 a, .int .i64 b, .int .i64 c]] w fun e w' => e = .returned (.bool true) ∧ Below w.heap.size w w' := by
  have hu42 := Try.underlying42
  have hm0 : decide (m < 0) = false := decide_eq_false hm
  have HB := Aside0.mk (Below.refl w.heap.size w)
  go_enter Try.func5, Try.ntmps5
  go_wp2_with (first | ((with_reducible refine gate_dst (N := 1) rfl ?_); refine box_event ?hg (N := 1) ?hd (cs := #[.int .i64 a, .int .i64 b, .int .i64 c]) (t := 38) ?hr ?_; (case hd => rfl); (case hg => rfl); (case hr => first | (go_simp; done) | (go_simp; rfl)); intro g1 hg w1 hbox hb; revert hbox hb hg))
  intro hg1 hb1 hB1
  have BK1 := Aside0.mk hb1
  have HB1 := Aside0.mk (below_step HB.out hB1)
  have G1 := Aside0.mk (show w.heap.size ≤ g1 by rw [hg1]; exact Nat.le_refl _)
  clear hg1 hb1 hB1 HB
  have q1_0 : w1.cell? ⟨g1, 0, none⟩ = some (.int .i64 a) := (blk_cell BK1.out 0).trans rfl
  have q1_1 : w1.cell? ⟨g1, 1, none⟩ = some (.int .i64 b) := (blk_cell BK1.out 1).trans rfl
  have q1_2 : w1.cell? ⟨g1, 2, none⟩ = some (.int .i64 c) := (blk_cell BK1.out 2).trans rfl
  go_wp2_with fail
  refine (laws_toShape.calls a b c a b c _ rfl).mono ?_
  rintro e w2 ⟨rfl, hBa⟩
  dsimp only
  clear q1_0 q1_1 q1_2
  go_wp2_with fail
  refine (spec_CacheEmpty.calls k a b c r1 r2 r3 r4 _ h1).mono ?_
  rintro e w3 ⟨vw, rfl, hS, hBb⟩
  dsimp only
  obtain ⟨Aw, cw, rfl⟩ := Kd.S_slice hS
  go_wp2_with (first | ((with_reducible refine gate_dst (N := 3) rfl ?_); refine box_event ?hg (N := 3) ?hd (cs := #[.int .i64 0, .int .i64 0, .int .i64 0, .slice none 0 0]) (t := 42) ?hr ?_; (case hd => rfl); (case hg => rfl); (case hr => first | (go_simp; done) | (go_simp; rfl)); intro g3 hg w4 hbox hb; revert hbox hb hg))
  intro hgN hbN hBc
  have BKn := Aside0.mk hbN
  have z1_0 : w4.cell? ⟨g3, 0, none⟩ = some (.int .i64 0) := (blk_cell BKn.out 0).trans rfl
  have z1_f0 := blk_frozen BKn.out 0
  have z1_1 : w4.cell? ⟨g3, 1, none⟩ = some (.int .i64 0) := (blk_cell BKn.out 1).trans rfl
  have z1_f1 := blk_frozen BKn.out 1
  have z1_2 : w4.cell? ⟨g3, 2, none⟩ = some (.int .i64 0) := (blk_cell BKn.out 2).trans rfl
  have z1_f2 := blk_frozen BKn.out 2
  have z1_3 : w4.cell? ⟨g3, 3, none⟩ = some (.slice none 0 0) := (blk_cell BKn.out 3).trans rfl
  have z1_f3 := blk_frozen BKn.out 3
  have hgN_ := Aside0.mk hgN
  clear hgN
  refine store_event (t := 42) (p := 3) (v := ?vo3) (w1 := (World.setCell (World.setCell (World.setCell (World.setCell w4 ⟨g3, 0, none⟩ (.int .i64 r1)) ⟨g3, 1, none⟩ (.int .i64 r2)) ⟨g3, 2, none⟩ (.int .i64 r3)) ⟨g3, 3, none⟩ (.slice Aw r4.length cw))) ?hg ?ho ?hn ?hr ?_
  case ho => rfl
  case hg => rfl
  case hn => rfl
  case hr => first | (go_simp; done) | (go_simp; rfl)
  intro w5 hw_
  clear z1_0 z1_f0 z1_1 z1_f1 z1_2 z1_f2 z1_3 z1_f3
  have hBabc : Below w1.heap.size w1 w4 := below_step (below_step hBa hBb) hBc
  have hKB : KeepBut w4 w5 g3 none := by rw [hw_]; exact (((KeepBut.refl _ _ _).set_ 0 _).set_ 1 _).set_ 2 _ |>.set_ 3 _
  have hsz : w1.heap.size ≤ g3 := by rw [hgN_.out]; exact Nat.le_trans hBa.size hBb.size
  have hold : ∀ k, k < w1.heap.size → w5.heap[k]? = w1.heap[k]? := fun k hk => (hKB.2 k (Nat.lt_of_lt_of_le hk hBabc.size) (by omega) (by simp)).trans (hBabc.block k hk)
  have n0_ := Aside0.mk (show w5.heap[g3]? = some (.cells #[.int .i64 r1, .int .i64 r2, .int .i64 r3, .slice Aw r4.length cw] 42 (0, 0)) by rw [hw_]; exact blk_put (cs := #[.int .i64 r1, .int .i64 r2, .int .i64 r3, .slice none 0 0]) (blk_put (cs := #[.int .i64 r1, .int .i64 r2, .int .i64 0, .slice none 0 0]) (blk_put (cs := #[.int .i64 r1, .int .i64 0, .int .i64 0, .slice none 0 0]) (blk_put (cs := #[.int .i64 0, .int .i64 0, .int .i64 0, .slice none 0 0]) BKn.out 0 _ rfl) 1 _ rfl) 2 _ rfl) 3 _ rfl)
  have n1_ := Aside0.mk (show Below w.heap.size w w5 by rw [hw_]; exact below_set (below_set (below_set (below_set (below_step HB1.out hBabc) (Nat.le_trans HB1.out.size hsz)) (Nat.le_trans HB1.out.size hsz)) (Nat.le_trans HB1.out.size hsz)) (Nat.le_trans HB1.out.size hsz))
  have n2_ := Aside0.mk (show Kd.S (Kd.slice 103 k103) 88 w5 w.heap.size (fun k_ => w1.heap.size ≤ k_ ∧ k_ < g3) (.slice Aw r4.length cw) r4 from Kd.S_step (Kd.S_mono (Kd.S_lower (Kd.S_below (Kd.S_mono (Kd.S_bound hS) (fun k_ hk => (show w1.heap.size ≤ k_ ∧ k_ < g3 from ⟨Nat.le_trans hBa.size hk.2.1, by rw [hgN_.out]; exact hk.2.2.1⟩))) hBc) (Nat.le_trans HB1.out.size hBa.size)) (fun _ hk => hk)) (fun k_ hk hlt => hKB.2 k_ hlt (by omega) (by simp)))
  have BKw := n0_
  have HB5 := n1_
  have Sw := n2_
  have BK15 := Aside0.mk ((hold g1 (blk_lt BK1.out)).trans BK1.out)
  have L1 := Aside0.mk (show g1 < g3 from Nat.lt_of_lt_of_le (blk_lt BK1.out) hsz)
  have L3 := Aside0.mk (blk_lt BKw.out)
  clear n0_ n1_ n2_ hBa hBb hBc hS hbN hgN_ BKn hw_ hKB hBabc hsz hold BK1 HB1
  have q2_0 : w5.cell? ⟨g1, 0, none⟩ = some (.int .i64 a) := (blk_cell BK15.out 0).trans rfl
  have q2_1 : w5.cell? ⟨g1, 1, none⟩ = some (.int .i64 b) := (blk_cell BK15.out 1).trans rfl
  have q2_2 : w5.cell? ⟨g1, 2, none⟩ = some (.int .i64 c) := (blk_cell BK15.out 2).trans rfl
  go_wp2_with fail
  refine (laws_toShape.calls a b c a b c _ rfl).mono ?_
  rintro e w6 ⟨rfl, hBa⟩
  dsimp only
  clear q2_0 q2_1 q2_2
  go_wp2_with fail
  refine (impl_CacheEmpty.calls a b c r1 r2 r3 r4 _ h2).mono ?_
  rintro e w7 ⟨vg, rfl, hS, hBb⟩
  dsimp only
  obtain ⟨Ag, cg, rfl⟩ := Kd.S_slice hS
  go_wp2_with (first | ((with_reducible refine gate_dst (N := 4) rfl ?_); refine box_event ?hg (N := 4) ?hd (cs := #[.int .i64 0, .int .i64 0, .int .i64 0, .slice none 0 0]) (t := 42) ?hr ?_; (case hd => rfl); (case hg => rfl); (case hr => first | (go_simp; done) | (go_simp; rfl)); intro g4 hg w8 hbox hb; revert hbox hb hg))
  intro hgN hbN hBc
  have BKn := Aside0.mk hbN
  have z2_0 : w8.cell? ⟨g4, 0, none⟩ = some (.int .i64 0) := (blk_cell BKn.out 0).trans rfl
  have z2_f0 := blk_frozen BKn.out 0
  have z2_1 : w8.cell? ⟨g4, 1, none⟩ = some (.int .i64 0) := (blk_cell BKn.out 1).trans rfl
  have z2_f1 := blk_frozen BKn.out 1
  have z2_2 : w8.cell? ⟨g4, 2, none⟩ = some (.int .i64 0) := (blk_cell BKn.out 2).trans rfl
  have z2_f2 := blk_frozen BKn.out 2
  have z2_3 : w8.cell? ⟨g4, 3, none⟩ = some (.slice none 0 0) := (blk_cell BKn.out 3).trans rfl
  have z2_f3 := blk_frozen BKn.out 3
  have hgN_ := Aside0.mk hgN
  clear hgN
  refine store_event (t := 42) (p := 4) (v := ?vo4) (w1 := (World.setCell (World.setCell (World.setCell (World.setCell w8 ⟨g4, 0, none⟩ (.int .i64 r1)) ⟨g4, 1, none⟩ (.int .i64 r2)) ⟨g4, 2, none⟩ (.int .i64 r3)) ⟨g4, 3, none⟩ (.slice Ag r4.length cg))) ?hg ?ho ?hn ?hr ?_
  case ho => rfl
  case hg => rfl
  case hn => rfl
  case hr => first | (go_simp; done) | (go_simp; rfl)
  intro w9 hw_
  clear z2_0 z2_f0 z2_1 z2_f1 z2_2 z2_f2 z2_3 z2_f3
  have hBabc : Below w5.heap.size w5 w8 := below_step (below_step hBa hBb) hBc
  have hKB : KeepBut w8 w9 g4 none := by rw [hw_]; exact (((KeepBut.refl _ _ _).set_ 0 _).set_ 1 _).set_ 2 _ |>.set_ 3 _
  have hsz : w5.heap.size ≤ g4 := by rw [hgN_.out]; exact Nat.le_trans hBa.size hBb.size
  have hold : ∀ k, k < w5.heap.size → w9.heap[k]? = w5.heap[k]? := fun k hk => (hKB.2 k (Nat.lt_of_lt_of_le hk hBabc.size) (by omega) (by simp)).trans (hBabc.block k hk)
  have n0_ := Aside0.mk (show w9.heap[g4]? = some (.cells #[.int .i64 r1, .int .i64 r2, .int .i64 r3, .slice Ag r4.length cg] 42 (0, 0)) by rw [hw_]; exact blk_put (cs := #[.int .i64 r1, .int .i64 r2, .int .i64 r3, .slice none 0 0]) (blk_put (cs := #[.int .i64 r1, .int .i64 r2, .int .i64 0, .slice none 0 0]) (blk_put (cs := #[.int .i64 r1, .int .i64 0, .int .i64 0, .slice none 0 0]) (blk_put (cs := #[.int .i64 0, .int .i64 0, .int .i64 0, .slice none 0 0]) BKn.out 0 _ rfl) 1 _ rfl) 2 _ rfl) 3 _ rfl)
  have n1_ := Aside0.mk (show Below w.heap.size w w9 by rw [hw_]; exact below_set (below_set (below_set (below_set (below_step HB5.out hBabc) (Nat.le_trans HB5.out.size hsz)) (Nat.le_trans HB5.out.size hsz)) (Nat.le_trans HB5.out.size hsz)) (Nat.le_trans HB5.out.size hsz))
  have n2_ := Aside0.mk (show Kd.S (Kd.slice 103 k103) 88 w9 w.heap.size (fun k_ => w5.heap.size ≤ k_ ∧ k_ < g4) (.slice Ag r4.length cg) r4 from Kd.S_step (Kd.S_mono (Kd.S_lower (Kd.S_below (Kd.S_mono (Kd.S_bound hS) (fun k_ hk => (show w5.heap.size ≤ k_ ∧ k_ < g4 from ⟨Nat.le_trans hBa.size hk.2.1, by rw [hgN_.out]; exact hk.2.2.1⟩))) hBc) (Nat.le_trans HB5.out.size hBa.size)) (fun _ hk => hk)) (fun k_ hk hlt => hKB.2 k_ hlt (by omega) (by simp)))
  have BKg := n0_
  have HB9 := n1_
  have Sg := n2_
  have BK19 := Aside0.mk ((hold g1 (blk_lt BK15.out)).trans BK15.out)
  have BKw9 := Aside0.mk ((hold g3 (blk_lt BKw.out)).trans BKw.out)
  have Sw9 := Aside0.mk (Kd.S_step Sw.out (fun k_ hk hlt => hold k_ hlt))
  have L4 := Aside0.mk (show w5.heap.size ≤ g4 from hsz)
  clear n0_ n1_ n2_ hBa hBb hBc hS hbN hgN_ BKn hw_ hKB hBabc hsz hold BK15 BKw Sw HB5
  have u_0 : w9.cell? ⟨g4, 0, none⟩ = some (.int .i64 r1) := (blk_cell BKg.out 0).trans rfl
  have u_1 : w9.cell? ⟨g4, 1, none⟩ = some (.int .i64 r2) := (blk_cell BKg.out 1).trans rfl
  have u_2 : w9.cell? ⟨g4, 2, none⟩ = some (.int .i64 r3) := (blk_cell BKg.out 2).trans rfl
  have u_3 : w9.cell? ⟨g4, 3, none⟩ = some (.slice Ag r4.length cg) := (blk_cell BKg.out 3).trans rfl
  have v_0 : w9.cell? ⟨g3, 0, none⟩ = some (.int .i64 r1) := (blk_cell BKw9.out 0).trans rfl
  have v_1 : w9.cell? ⟨g3, 1, none⟩ = some (.int .i64 r2) := (blk_cell BKw9.out 1).trans rfl
  have v_2 : w9.cell? ⟨g3, 2, none⟩ = some (.int .i64 r3) := (blk_cell BKw9.out 2).trans rfl
  have v_3 : w9.cell? ⟨g3, 3, none⟩ = some (.slice Aw r4.length cw) := (blk_cell BKw9.out 3).trans rfl
  go_wp2_with fail
  refine (laws_eqCache.calls k r1 r2 r3 Ag cg r4 r1 r2 r3 Aw cw r4 true _ (Kd.S_reads' Sg.out).2.2 (Kd.S_reads' Sg.out).2.1 (Kd.S_reads' Sw9.out).2.2 (Kd.S_reads' Sw9.out).2.1 h3).mono ?_
  rintro e w10 ⟨rfl, hBa⟩
  dsimp only
  clear u_0 u_1 u_2 u_3
  clear v_0 v_1 v_2 v_3
  have BKg10 := Aside0.mk (blk_below BKg.out hBa)
  have BKw10 := Aside0.mk (blk_below BKw9.out hBa)
  have BK110 := Aside0.mk (blk_below BK19.out hBa)
  have Sg10 := Aside0.mk (Kd.S_below Sg.out hBa)
  have Sw10 := Aside0.mk (Kd.S_below Sw9.out hBa)
  have HB10 := Aside0.mk (below_step HB9.out hBa)
  clear hBa BKg BKw9 BK19 Sg Sw9 HB9
  have u_0 : w10.cell? ⟨g4, 0, none⟩ = some (.int .i64 r1) := (blk_cell BKg10.out 0).trans rfl
  have u_1 : w10.cell? ⟨g4, 1, none⟩ = some (.int .i64 r2) := (blk_cell BKg10.out 1).trans rfl
  have u_2 : w10.cell? ⟨g4, 2, none⟩ = some (.int .i64 r3) := (blk_cell BKg10.out 2).trans rfl
  have u_3 : w10.cell? ⟨g4, 3, none⟩ = some (.slice Ag r4.length cg) := (blk_cell BKg10.out 3).trans rfl
  go_wp2_with fail
  refine (laws_markCache.calls k (fun k_ => w5.heap.size ≤ k_ ∧ k_ < g4) r1 r2 r3 _ r4 1 m l' w _ HB10.out Sg10.out h4).mono ?_
  rintro e w11 ⟨rfl, hS, hB, hK⟩
  dsimp only
  clear u_0 u_1 u_2 u_3
  have BKg11 := Aside0.mk ((hK.2 g4 (blk_lt BKg10.out) (fun h => by have := h.2; omega)).trans BKg10.out)
  have hl3 := L3.out; have hl1 := L1.out; have hl4 := L4.out
  have BKw11 := Aside0.mk ((hK.2 g3 (blk_lt BKw10.out) (fun h => by have := h.1; omega)).trans BKw10.out)
  have BK111 := Aside0.mk ((hK.2 g1 (blk_lt BK110.out) (fun h => by have := h.1; omega)).trans BK110.out)
  have Sw11 := Aside0.mk (Kd.S_step Sw10.out (fun k_ hk hlt => hK.2 k_ hlt (fun h => by have := h.1; have := hk.2; omega)))
  have Sg11 := Aside0.mk hS
  have HB11 := Aside0.mk hB
  obtain ⟨hgl, hgc, hgC⟩ := Kd.S_reads' Sg11.out
  have GL := Aside0.mk hgl; have GC := Aside0.mk hgc; have GCC := Aside0.mk hgC
  clear hS hB hK hl3 hl1 hl4 BKg10 BKw10 BK110 Sw10 Sg10 HB10 hgl hgc hgC
  have u_0 : w11.cell? ⟨g4, 0, none⟩ = some (.int .i64 r1) := (blk_cell BKg11.out 0).trans rfl
  have u_1 : w11.cell? ⟨g4, 1, none⟩ = some (.int .i64 r2) := (blk_cell BKg11.out 1).trans rfl
  have u_2 : w11.cell? ⟨g4, 2, none⟩ = some (.int .i64 r3) := (blk_cell BKg11.out 2).trans rfl
  have u_3 : w11.cell? ⟨g4, 3, none⟩ = some (.slice Ag r4.length cg) := (blk_cell BKg11.out 3).trans rfl
  go_wp2_with fail
  rw [(show r4.length = l'.length from GL.out)]
  refine (laws_heldCache.calls k r1 r2 r3 Ag cg l' 1 m _ GCC.out (by rw [← (show r4.length = l'.length from GL.out)]; exact GC.out) h5).mono ?_
  rintro e w12 ⟨rfl, hBa⟩
  dsimp only
  rw [← (show r4.length = l'.length from GL.out)]
  clear u_0 u_1 u_2 u_3
  have BK112 := Aside0.mk (blk_below BK111.out hBa)
  have BKw12 := Aside0.mk (blk_below BKw11.out hBa)
  have BKg12 := Aside0.mk (blk_below BKg11.out hBa)
  have Sw12 := Aside0.mk (Kd.S_below Sw11.out hBa)
  have Sg12 := Aside0.mk (Kd.S_below Sg11.out hBa)
  have HB12 := Aside0.mk (below_step HB11.out hBa)
  clear hBa BK111 BKw11 BKg11 Sw11 Sg11 HB11 GCC
  have q3_0 : w12.cell? ⟨g1, 0, none⟩ = some (.int .i64 a) := (blk_cell BK112.out 0).trans rfl
  have q3_1 : w12.cell? ⟨g1, 1, none⟩ = some (.int .i64 b) := (blk_cell BK112.out 1).trans rfl
  have q3_2 : w12.cell? ⟨g1, 2, none⟩ = some (.int .i64 c) := (blk_cell BK112.out 2).trans rfl
  go_wp2_with fail
  refine (laws_toShape.calls a b c a b c _ rfl).mono ?_
  rintro e w13 ⟨rfl, hBa⟩
  dsimp only
  clear q3_0 q3_1 q3_2
  go_wp2_with fail
  refine (impl_CacheEmpty.calls a b c r1 r2 r3 r4 _ h2).mono ?_
  rintro e w14 ⟨vh, rfl, hS, hBb⟩
  dsimp only
  obtain ⟨Ah, ch, rfl⟩ := Kd.S_slice hS
  go_wp2_with (first | ((with_reducible refine gate_dst (N := 7) rfl ?_); refine box_event ?hg (N := 7) ?hd (cs := #[.int .i64 0, .int .i64 0, .int .i64 0, .slice none 0 0]) (t := 42) ?hr ?_; (case hd => rfl); (case hg => rfl); (case hr => first | (go_simp; done) | (go_simp; rfl)); intro g5 hg w15 hbox hb; revert hbox hb hg))
  intro hgN hbN hBc
  have BKn := Aside0.mk hbN
  have z3_0 : w15.cell? ⟨g5, 0, none⟩ = some (.int .i64 0) := (blk_cell BKn.out 0).trans rfl
  have z3_f0 := blk_frozen BKn.out 0
  have z3_1 : w15.cell? ⟨g5, 1, none⟩ = some (.int .i64 0) := (blk_cell BKn.out 1).trans rfl
  have z3_f1 := blk_frozen BKn.out 1
  have z3_2 : w15.cell? ⟨g5, 2, none⟩ = some (.int .i64 0) := (blk_cell BKn.out 2).trans rfl
  have z3_f2 := blk_frozen BKn.out 2
  have z3_3 : w15.cell? ⟨g5, 3, none⟩ = some (.slice none 0 0) := (blk_cell BKn.out 3).trans rfl
  have z3_f3 := blk_frozen BKn.out 3
  have hgN_ := Aside0.mk hgN
  clear hgN
  refine store_event (t := 42) (p := 7) (v := ?vo7) (w1 := (World.setCell (World.setCell (World.setCell (World.setCell w15 ⟨g5, 0, none⟩ (.int .i64 r1)) ⟨g5, 1, none⟩ (.int .i64 r2)) ⟨g5, 2, none⟩ (.int .i64 r3)) ⟨g5, 3, none⟩ (.slice Ah r4.length ch))) ?hg ?ho ?hn ?hr ?_
  case ho => rfl
  case hg => rfl
  case hn => rfl
  case hr => first | (go_simp; done) | (go_simp; rfl)
  intro w16 hw_
  clear z3_0 z3_f0 z3_1 z3_f1 z3_2 z3_f2 z3_3 z3_f3
  have hBabc : Below w12.heap.size w12 w15 := below_step (below_step hBa hBb) hBc
  have hKB : KeepBut w15 w16 g5 none := by rw [hw_]; exact (((KeepBut.refl _ _ _).set_ 0 _).set_ 1 _).set_ 2 _ |>.set_ 3 _
  have hsz : w12.heap.size ≤ g5 := by rw [hgN_.out]; exact Nat.le_trans hBa.size hBb.size
  have hold : ∀ k, k < w12.heap.size → w16.heap[k]? = w12.heap[k]? := fun k hk => (hKB.2 k (Nat.lt_of_lt_of_le hk hBabc.size) (by omega) (by simp)).trans (hBabc.block k hk)
  have n0_ := Aside0.mk (show w16.heap[g5]? = some (.cells #[.int .i64 r1, .int .i64 r2, .int .i64 r3, .slice Ah r4.length ch] 42 (0, 0)) by rw [hw_]; exact blk_put (cs := #[.int .i64 r1, .int .i64 r2, .int .i64 r3, .slice none 0 0]) (blk_put (cs := #[.int .i64 r1, .int .i64 r2, .int .i64 0, .slice none 0 0]) (blk_put (cs := #[.int .i64 r1, .int .i64 0, .int .i64 0, .slice none 0 0]) (blk_put (cs := #[.int .i64 0, .int .i64 0, .int .i64 0, .slice none 0 0]) BKn.out 0 _ rfl) 1 _ rfl) 2 _ rfl) 3 _ rfl)
  have n1_ := Aside0.mk (show Below w.heap.size w w16 by rw [hw_]; exact below_set (below_set (below_set (below_set (below_step HB12.out hBabc) (Nat.le_trans HB12.out.size hsz)) (Nat.le_trans HB12.out.size hsz)) (Nat.le_trans HB12.out.size hsz)) (Nat.le_trans HB12.out.size hsz))
  have n2_ := Aside0.mk (show Kd.S (Kd.slice 103 k103) 88 w16 w.heap.size (fun k_ => w12.heap.size ≤ k_ ∧ k_ < g5) (.slice Ah r4.length ch) r4 from Kd.S_step (Kd.S_mono (Kd.S_lower (Kd.S_below (Kd.S_mono (Kd.S_bound hS) (fun k_ hk => (show w12.heap.size ≤ k_ ∧ k_ < g5 from ⟨Nat.le_trans hBa.size hk.2.1, by rw [hgN_.out]; exact hk.2.2.1⟩))) hBc) (Nat.le_trans HB12.out.size hBa.size)) (fun _ hk => hk)) (fun k_ hk hlt => hKB.2 k_ hlt (by omega) (by simp)))
  have BKh := n0_
  have HB16 := n1_
  have Sh := n2_
  have BKw16 := Aside0.mk ((hold g3 (blk_lt BKw12.out)).trans BKw12.out)
  have BKg16 := Aside0.mk ((hold g4 (blk_lt BKg12.out)).trans BKg12.out)
  have Sw16 := Aside0.mk (Kd.S_step Sw12.out (fun k_ hk hlt => hold k_ hlt))
  have Sg16 := Aside0.mk (Kd.S_step Sg12.out (fun k_ hk hlt => hold k_ hlt))
  clear n0_ n1_ n2_ hBa hBb hBc hS hbN hgN_ BKn hw_ hKB hBabc hsz hold BK112 BKw12 BKg12 Sw12 Sg12 HB12
  have u_0 : w16.cell? ⟨g5, 0, none⟩ = some (.int .i64 r1) := (blk_cell BKh.out 0).trans rfl
  have u_1 : w16.cell? ⟨g5, 1, none⟩ = some (.int .i64 r2) := (blk_cell BKh.out 1).trans rfl
  have u_2 : w16.cell? ⟨g5, 2, none⟩ = some (.int .i64 r3) := (blk_cell BKh.out 2).trans rfl
  have u_3 : w16.cell? ⟨g5, 3, none⟩ = some (.slice Ah r4.length ch) := (blk_cell BKh.out 3).trans rfl
  have v_0 : w16.cell? ⟨g3, 0, none⟩ = some (.int .i64 r1) := (blk_cell BKw16.out 0).trans rfl
  have v_1 : w16.cell? ⟨g3, 1, none⟩ = some (.int .i64 r2) := (blk_cell BKw16.out 1).trans rfl
  have v_2 : w16.cell? ⟨g3, 2, none⟩ = some (.int .i64 r3) := (blk_cell BKw16.out 2).trans rfl
  have v_3 : w16.cell? ⟨g3, 3, none⟩ = some (.slice Aw r4.length cw) := (blk_cell BKw16.out 3).trans rfl
  go_wp2_with fail
  refine (laws_eqCache.calls k r1 r2 r3 Ah ch r4 r1 r2 r3 Aw cw r4 true _ (Kd.S_reads' Sh.out).2.2 (Kd.S_reads' Sh.out).2.1 (Kd.S_reads' Sw16.out).2.2 (Kd.S_reads' Sw16.out).2.1 h3).mono ?_
  rintro e w17 ⟨rfl, hBa⟩
  dsimp only
  clear u_0 u_1 u_2 u_3
  clear v_0 v_1 v_2 v_3
  have BKg17 := Aside0.mk (blk_below BKg16.out hBa)
  have Sg17 := Aside0.mk (Kd.S_below Sg16.out hBa)
  have HB17 := Aside0.mk (below_step HB16.out hBa)
  clear hBa BKg16 Sg16 HB16
  have u_0 : w17.cell? ⟨g4, 0, none⟩ = some (.int .i64 r1) := (blk_cell BKg17.out 0).trans rfl
  have u_1 : w17.cell? ⟨g4, 1, none⟩ = some (.int .i64 r2) := (blk_cell BKg17.out 1).trans rfl
  have u_2 : w17.cell? ⟨g4, 2, none⟩ = some (.int .i64 r3) := (blk_cell BKg17.out 2).trans rfl
  have u_3 : w17.cell? ⟨g4, 3, none⟩ = some (.slice Ag r4.length cg) := (blk_cell BKg17.out 3).trans rfl
  go_wp2_with fail
  rw [(show r4.length = l'.length from GL.out)]
  refine (laws_heldCache.calls k r1 r2 r3 Ag cg l' 1 m _ (Kd.S_reads' Sg17.out).2.2 (by rw [← (show r4.length = l'.length from GL.out)]; exact GC.out) h5).mono ?_
  rintro e w18 ⟨rfl, hBa⟩
  dsimp only
  clear u_0 u_1 u_2 u_3
  have HB18 := Aside0.mk (below_step HB17.out hBa)
  go_wp2
  try go_ret
  exact ⟨by first | rfl | (simp; done), HB18.out⟩
/-- What the walk asks of the functions that the law calls. -/
def Hyp (k : Nat) (a b c : Int) (r : Bool) : Prop := r = true ∧ ∃ (r1 r2 r3 m : Int) (r4 l' : List (List (S103))), spec_CacheEmpty.f k a b c = some (r1, r2, r3, r4) ∧ impl_CacheEmpty.f a b c = some (r1, r2, r3, r4) ∧
  laws_eqCache.f k r1 r2 r3 r4 r1 r2 r3 r4 = some true ∧ laws_markWaySS.f k r4 1 = some (m, l') ∧ laws_heldCache.f k r1 r2 r3 l' 1 = some m ∧ ¬ m < 0
theorem laws_FnExactCacheEmpty.calls (k : Nat) (a b c : Int) (r : Bool) (w : World) (h : Hyp k a b c r) :
    Calls Try.prog 5 #[.agg #[.int .i64 a, .int .i64 b, .int .i64 c]] w fun e w' => e = .returned (.bool r) ∧ Below w.heap.size w w' := by
  obtain ⟨rfl, r1, r2, r3, m, r4, l', h1, h2, h3, h4, h5, h6⟩ := h
  exact laws_FnExactCacheEmpty.walk1 k a b c r1 r2 r3 m r4 l' w h1 h2 h3 h4 h5 h6

end Go.Proofs.Ytboginbepgopeaa.PFnExactCacheEmpty

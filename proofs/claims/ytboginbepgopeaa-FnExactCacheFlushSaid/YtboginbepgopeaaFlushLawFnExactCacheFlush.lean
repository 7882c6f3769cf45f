/- The walk of laws.FnExactCacheFlush, by hand, over the printed contracts and markCache's. Printed by gen_flushlaw.py. -/
import Derived.Test.YtboginbepgopeaaMarkFnExactCacheFlush
import Derived.Test.YtboginbepgopeaaPFnExactCacheFlushx
namespace Go.Proofs.Ytboginbepgopeaa.PFnExactCacheFlush
open Go.RowKit Go.Proofs.YtboginbepgopeaaW.PrintWords Go.Proofs.YtboginbepgopeaaW.PrintLast Go.Proofs.YtboginbepgopeaaW.PrintMore
attribute [local go_sem] max2_int min2_int max_two min_two max_three min_three max_four min_four
set_option linter.unusedVariables false
set_option linter.unusedSimpArgs false

set_option maxHeartbeats 8000000 in
set_option maxRecDepth 100000 in
theorem laws_FnExactCacheFlush.walk1 (k : Nat) (a b c : Int) (A : Option Addr) (cp : Nat) (l : List (List (S133))) (s r1 r2 r3 n m mx : Int) (L Lx r4 l' : List (List (S103))) (w : World)
    (hr : Kd.C (Kd.slice 133 k133) w A l.length l) (hc : l.length ≤ cp)
    (hsz : laws_szCache.f k a b c l 1048576 = some s) (hs : ¬ s < 0) (hto : laws_toCache.f k a b c l = some (a, b, c, L))
    (hsp : spec_CacheFlush.f k a b c L = some (r1, r2, r3, r4, n)) (him : impl_CacheFlush.f k a b c L = some (r1, r2, r3, r4, n))
    (heq : laws_eqCache.f k r1 r2 r3 r4 r1 r2 r3 r4 = some true) (heqx : laws_eqCache.f k a b c L a b c L = some true)
    (hmx : laws_markWaySS.f k L 1 = some (mx, Lx)) (hmx0 : ¬ mx < 0)
    (hmk : laws_markWaySS.f k r4 1 = some (m, l')) (hhd : laws_heldCache.f k r1 r2 r3 l' 1 = some m) (hm : ¬ m < 0) :
    Calls Try.prog 10 #[.agg #[.int .i64 a, .int .i64 b, .int .i64 c, .slice A l.length cp]] w fun e w' => e = .returned (.bool true) ∧ Below w.heap.size w w' := by
  have hu42 := Try.underlying42
  have hu67 := Try.underlying67
  have hs0 : decide (s < 0) = false := decide_eq_false hs
  have hm0 : decide (m < 0) = false := decide_eq_false hm
  have hmx1 : decide (mx < 0) = false := decide_eq_false hmx0
  have HC := Aside0.mk hr
  have HCc := Aside0.mk hc
  have HB := Aside0.mk (Below.refl w.heap.size w)
  clear hr hc
  go_enter Try.func10, Try.ntmps10
  go_wp2_with (first | ((with_reducible refine gate_dst (N := 1) rfl ?_); refine box_event ?hg (N := 1) ?hd (cs := #[.int .i64 a, .int .i64 b, .int .i64 c, .slice A l.length cp]) (t := 67) ?hr ?_; (case hd => rfl); (case hg => rfl); (case hr => first | (go_simp; done) | (go_simp; rfl)); intro g1 hg w1 hbox hb; revert hbox hb hg))
  intro hg1 hb1 hB1
  have BK1 := Aside0.mk hb1
  have HB1 := Aside0.mk (below_step HB.out hB1)
  clear hg1 hb1 hB1 HB
  have HB := HB1
  clear HB1
  have LT1 := Aside0.mk (blk_lt BK1.out)
  have ug1_0 : w1.cell? ⟨g1, 0, none⟩ = some (.int .i64 a) := (blk_cell BK1.out 0).trans rfl
  have ug1_1 : w1.cell? ⟨g1, 1, none⟩ = some (.int .i64 b) := (blk_cell BK1.out 1).trans rfl
  have ug1_2 : w1.cell? ⟨g1, 2, none⟩ = some (.int .i64 c) := (blk_cell BK1.out 2).trans rfl
  have ug1_3 : w1.cell? ⟨g1, 3, none⟩ = some (.slice A l.length cp) := (blk_cell BK1.out 3).trans rfl
  go_wp2_with fail
  refine (laws_szCache.calls k a b c A cp l 1048576 s _ (Kd.C_below HC.out HB.out) HCc.out hsz).mono ?_
  rintro e w2 ⟨rfl, hBa⟩
  dsimp only
  clear ug1_0 ug1_1 ug1_2 ug1_3
  have BK1_ := Aside0.mk (blk_below BK1.out hBa)
  have HB_ := Aside0.mk (below_step HB.out hBa)
  clear HB BK1
  have BK1 := BK1_
  clear BK1_
  have HB := HB_
  clear HB_
  clear hBa
  have LBg3 := Aside0.mk (blk_lt BK1.out)
  have ug1_0 : w2.cell? ⟨g1, 0, none⟩ = some (.int .i64 a) := (blk_cell BK1.out 0).trans rfl
  have ug1_1 : w2.cell? ⟨g1, 1, none⟩ = some (.int .i64 b) := (blk_cell BK1.out 1).trans rfl
  have ug1_2 : w2.cell? ⟨g1, 2, none⟩ = some (.int .i64 c) := (blk_cell BK1.out 2).trans rfl
  have ug1_3 : w2.cell? ⟨g1, 3, none⟩ = some (.slice A l.length cp) := (blk_cell BK1.out 3).trans rfl
  have hB_0 : Below w2.heap.size w2 w2 := Below.refl _ _
  go_wp2_with fail
  refine (laws_toCache.calls k a b c A cp l a b c L _ (Kd.C_below HC.out HB.out) HCc.out hto).mono ?_
  rintro e w3 ⟨vt, rfl, hSt, hBt⟩
  dsimp only
  obtain ⟨At, ct, rfl⟩ := Kd.S_slice hSt
  clear ug1_0 ug1_1 ug1_2 ug1_3
  have hSt := Aside0.mk hSt
  have hB_1 := below_step hB_0 hBt
  clear hBt
  go_wp2_with fail
  refine (spec_CacheFlush.calls k a b c At ct L r1 r2 r3 r4 n _ (Kd.S_reads' hSt.out).2.2 (Kd.S_reads' hSt.out).2.1 hsp).mono ?_
  rintro e w4 ⟨vn, rfl, hS, hBb⟩
  dsimp only
  obtain ⟨Aw, cw, rfl⟩ := Kd.S_slice hS
  have hS := Aside0.mk hS
  have hB_2 := below_step hB_1 hBb
  have hlo : w2.heap.size ≤ w3.heap.size := hB_1.size
  go_wp2_with (first | ((with_reducible refine gate_dst (N := 4) rfl ?_); refine box_event ?hg (N := 4) ?hd (cs := #[.int .i64 0, .int .i64 0, .int .i64 0, .slice none 0 0]) (t := 42) ?hr ?_; (case hd => rfl); (case hg => rfl); (case hr => first | (go_simp; done) | (go_simp; rfl)); intro g3 hg w5 hbox hb; revert hbox hb hg))
  intro hgN hbN hBc
  have BKn := Aside0.mk hbN
  have hgN_ := Aside0.mk hgN
  have hB_3 := below_step hB_2 hBc
  clear hgN hbN
  have z0 : w5.cell? ⟨g3, 0, none⟩ = some (.int .i64 0) := (blk_cell BKn.out 0).trans rfl
  have zf0 := blk_frozen BKn.out 0
  have z1 : w5.cell? ⟨g3, 1, none⟩ = some (.int .i64 0) := (blk_cell BKn.out 1).trans rfl
  have zf1 := blk_frozen BKn.out 1
  have z2 : w5.cell? ⟨g3, 2, none⟩ = some (.int .i64 0) := (blk_cell BKn.out 2).trans rfl
  have zf2 := blk_frozen BKn.out 2
  have z3 : w5.cell? ⟨g3, 3, none⟩ = some (.slice none 0 0) := (blk_cell BKn.out 3).trans rfl
  have zf3 := blk_frozen BKn.out 3
  refine store_event (t := 42) (p := 4) (v := ?vo4) (w1 := (World.setCell (World.setCell (World.setCell (World.setCell w5 ⟨g3, 0, none⟩ (.int .i64 r1)) ⟨g3, 1, none⟩ (.int .i64 r2)) ⟨g3, 2, none⟩ (.int .i64 r3)) ⟨g3, 3, none⟩ (.slice Aw r4.length cw))) ?hg ?ho ?hn ?hr ?_
  case ho => rfl
  case hg => rfl
  case hn => rfl
  case hr => first | (go_simp; done) | (go_simp; rfl)
  intro w6 hw_
  clear z0 zf0 z1 zf1 z2 zf2 z3 zf3
  have hKB : KeepBut w5 w6 g3 none := by rw [hw_]; exact (((KeepBut.refl _ _ _).set_ 0 _).set_ 1 _).set_ 2 _ |>.set_ 3 _
  have hsz : w2.heap.size ≤ g3 := by rw [hgN_.out]; exact hB_2.size
  have hold : ∀ k, k < w2.heap.size → w6.heap[k]? = w2.heap[k]? := fun k hk => (hKB.2 k (Nat.lt_of_lt_of_le hk hB_3.size) (by omega) (by simp)).trans (hB_3.block k hk)
  have n0_ := Aside0.mk (show w6.heap[g3]? = some (.cells #[.int .i64 r1, .int .i64 r2, .int .i64 r3, .slice Aw r4.length cw] 42 (0, 0)) by rw [hw_]; exact blk_put (cs := #[.int .i64 r1, .int .i64 r2, .int .i64 r3, .slice none 0 0]) (blk_put (cs := #[.int .i64 r1, .int .i64 r2, .int .i64 0, .slice none 0 0]) (blk_put (cs := #[.int .i64 r1, .int .i64 0, .int .i64 0, .slice none 0 0]) (blk_put (cs := #[.int .i64 0, .int .i64 0, .int .i64 0, .slice none 0 0]) BKn.out 0 _ rfl) 1 _ rfl) 2 _ rfl) 3 _ rfl)
  have n2_ := Aside0.mk (show Kd.S (Kd.slice 103 k103) 88 w6 w.heap.size (fun k_ => w2.heap.size ≤ k_ ∧ k_ < g3) (.slice Aw r4.length cw) r4 from Kd.S_step (Kd.S_lower (Kd.S_below (Kd.S_mono (Kd.S_bound hS.out) (fun k_ hk => (show w2.heap.size ≤ k_ ∧ k_ < g3 from ⟨Nat.le_trans hlo hk.2.1, by rw [hgN_.out]; exact hk.2.2.1⟩))) hBc) (Nat.le_trans HB.out.size hlo)) (fun k_ hk hlt => hKB.2 k_ hlt (by omega) (by simp)))
  have BK1_ := Aside0.mk ((hold g1 (blk_lt BK1.out)).trans BK1.out)
  have HB_ := Aside0.mk (show Below w.heap.size w w6 by rw [hw_]; exact below_set (below_set (below_set (below_set (below_step HB.out hB_3) (Nat.le_trans HB.out.size hsz)) (Nat.le_trans HB.out.size hsz)) (Nat.le_trans HB.out.size hsz)) (Nat.le_trans HB.out.size hsz))
  clear HB BK1
  have BK1 := BK1_
  clear BK1_
  have HB := HB_
  clear HB_
  have BK3 := n0_
  have S3 := n2_
  have LLg3 := Aside0.mk hsz
  have LTg3 := Aside0.mk (blk_lt BK3.out)
  clear n0_ n2_ hold hsz hKB hw_ hB_0 hB_2 hB_3 hBb hBc hS hlo BKn hgN_ hB_1 hSt
  have LBg5 := Aside0.mk (blk_lt BK1.out)
  have ug1_0 : w6.cell? ⟨g1, 0, none⟩ = some (.int .i64 a) := (blk_cell BK1.out 0).trans rfl
  have ug1_1 : w6.cell? ⟨g1, 1, none⟩ = some (.int .i64 b) := (blk_cell BK1.out 1).trans rfl
  have ug1_2 : w6.cell? ⟨g1, 2, none⟩ = some (.int .i64 c) := (blk_cell BK1.out 2).trans rfl
  have ug1_3 : w6.cell? ⟨g1, 3, none⟩ = some (.slice A l.length cp) := (blk_cell BK1.out 3).trans rfl
  have hB_0 : Below w6.heap.size w6 w6 := Below.refl _ _
  go_wp2_with fail
  refine (laws_toCache.calls k a b c A cp l a b c L _ (Kd.C_below HC.out HB.out) HCc.out hto).mono ?_
  rintro e w7 ⟨vn, rfl, hS, hBb⟩
  dsimp only
  obtain ⟨Ax, cx, rfl⟩ := Kd.S_slice hS
  clear ug1_0 ug1_1 ug1_2 ug1_3
  have hS := Aside0.mk hS
  have hB_2 := below_step hB_0 hBb
  have hlo : w6.heap.size ≤ w6.heap.size := hB_0.size
  go_wp2_with (first | ((with_reducible refine gate_dst (N := 6) rfl ?_); refine box_event ?hg (N := 6) ?hd (cs := #[.int .i64 0, .int .i64 0, .int .i64 0, .slice none 0 0]) (t := 42) ?hr ?_; (case hd => rfl); (case hg => rfl); (case hr => first | (go_simp; done) | (go_simp; rfl)); intro g5 hg w8 hbox hb; revert hbox hb hg))
  intro hgN hbN hBc
  have BKn := Aside0.mk hbN
  have hgN_ := Aside0.mk hgN
  have hB_3 := below_step hB_2 hBc
  clear hgN hbN
  have z0 : w8.cell? ⟨g5, 0, none⟩ = some (.int .i64 0) := (blk_cell BKn.out 0).trans rfl
  have zf0 := blk_frozen BKn.out 0
  have z1 : w8.cell? ⟨g5, 1, none⟩ = some (.int .i64 0) := (blk_cell BKn.out 1).trans rfl
  have zf1 := blk_frozen BKn.out 1
  have z2 : w8.cell? ⟨g5, 2, none⟩ = some (.int .i64 0) := (blk_cell BKn.out 2).trans rfl
  have zf2 := blk_frozen BKn.out 2
  have z3 : w8.cell? ⟨g5, 3, none⟩ = some (.slice none 0 0) := (blk_cell BKn.out 3).trans rfl
  have zf3 := blk_frozen BKn.out 3
  refine store_event (t := 42) (p := 6) (v := ?vo6) (w1 := (World.setCell (World.setCell (World.setCell (World.setCell w8 ⟨g5, 0, none⟩ (.int .i64 a)) ⟨g5, 1, none⟩ (.int .i64 b)) ⟨g5, 2, none⟩ (.int .i64 c)) ⟨g5, 3, none⟩ (.slice Ax L.length cx))) ?hg ?ho ?hn ?hr ?_
  case ho => rfl
  case hg => rfl
  case hn => rfl
  case hr => first | (go_simp; done) | (go_simp; rfl)
  intro w9 hw_
  clear z0 zf0 z1 zf1 z2 zf2 z3 zf3
  have hKB : KeepBut w8 w9 g5 none := by rw [hw_]; exact (((KeepBut.refl _ _ _).set_ 0 _).set_ 1 _).set_ 2 _ |>.set_ 3 _
  have hsz : w6.heap.size ≤ g5 := by rw [hgN_.out]; exact hB_2.size
  have hold : ∀ k, k < w6.heap.size → w9.heap[k]? = w6.heap[k]? := fun k hk => (hKB.2 k (Nat.lt_of_lt_of_le hk hB_3.size) (by omega) (by simp)).trans (hB_3.block k hk)
  have n0_ := Aside0.mk (show w9.heap[g5]? = some (.cells #[.int .i64 a, .int .i64 b, .int .i64 c, .slice Ax L.length cx] 42 (0, 0)) by rw [hw_]; exact blk_put (cs := #[.int .i64 a, .int .i64 b, .int .i64 c, .slice none 0 0]) (blk_put (cs := #[.int .i64 a, .int .i64 b, .int .i64 0, .slice none 0 0]) (blk_put (cs := #[.int .i64 a, .int .i64 0, .int .i64 0, .slice none 0 0]) (blk_put (cs := #[.int .i64 0, .int .i64 0, .int .i64 0, .slice none 0 0]) BKn.out 0 _ rfl) 1 _ rfl) 2 _ rfl) 3 _ rfl)
  have n2_ := Aside0.mk (show Kd.S (Kd.slice 103 k103) 88 w9 w.heap.size (fun k_ => w6.heap.size ≤ k_ ∧ k_ < g5) (.slice Ax L.length cx) L from Kd.S_step (Kd.S_lower (Kd.S_below (Kd.S_mono (Kd.S_bound hS.out) (fun k_ hk => (show w6.heap.size ≤ k_ ∧ k_ < g5 from ⟨Nat.le_trans hlo hk.2.1, by rw [hgN_.out]; exact hk.2.2.1⟩))) hBc) (Nat.le_trans HB.out.size hlo)) (fun k_ hk hlt => hKB.2 k_ hlt (by omega) (by simp)))
  have BK1_ := Aside0.mk ((hold g1 (blk_lt BK1.out)).trans BK1.out)
  have BK3_ := Aside0.mk ((hold g3 (blk_lt BK3.out)).trans BK3.out)
  have S3_ := Aside0.mk (Kd.S_step S3.out (fun k_ hk hlt => hold k_ hlt))
  have HB_ := Aside0.mk (show Below w.heap.size w w9 by rw [hw_]; exact below_set (below_set (below_set (below_set (below_step HB.out hB_3) (Nat.le_trans HB.out.size hsz)) (Nat.le_trans HB.out.size hsz)) (Nat.le_trans HB.out.size hsz)) (Nat.le_trans HB.out.size hsz))
  clear HB S3 BK3 BK1
  have BK1 := BK1_
  clear BK1_
  have BK3 := BK3_
  clear BK3_
  have S3 := S3_
  clear S3_
  have HB := HB_
  clear HB_
  have BK5 := n0_
  have S5 := n2_
  have LLg5 := Aside0.mk hsz
  have LTg5 := Aside0.mk (blk_lt BK5.out)
  clear n0_ n2_ hold hsz hKB hw_ hB_0 hB_2 hB_3 hBb hBc hS hlo BKn hgN_
  have LBg6 := Aside0.mk (blk_lt BK1.out)
  have ug5_0 : w9.cell? ⟨g5, 0, none⟩ = some (.int .i64 a) := (blk_cell BK5.out 0).trans rfl
  have ug5_1 : w9.cell? ⟨g5, 1, none⟩ = some (.int .i64 b) := (blk_cell BK5.out 1).trans rfl
  have ug5_2 : w9.cell? ⟨g5, 2, none⟩ = some (.int .i64 c) := (blk_cell BK5.out 2).trans rfl
  have ug5_3 : w9.cell? ⟨g5, 3, none⟩ = some (.slice Ax L.length cx) := (blk_cell BK5.out 3).trans rfl
  have hB_0 : Below w9.heap.size w9 w9 := Below.refl _ _
  go_wp2_with fail
  refine (impl_CacheFlush.calls k a b c Ax cx L r1 r2 r3 r4 n _ (Kd.S_reads' S5.out).2.2 (Kd.S_reads' S5.out).2.1 him).mono ?_
  rintro e w10 ⟨vn, rfl, hS, hBb⟩
  dsimp only
  obtain ⟨Ag, cg, rfl⟩ := Kd.S_slice hS
  clear ug5_0 ug5_1 ug5_2 ug5_3
  have hS := Aside0.mk hS
  have hB_2 := below_step hB_0 hBb
  have hlo : w9.heap.size ≤ w9.heap.size := hB_0.size
  go_wp2_with (first | ((with_reducible refine gate_dst (N := 7) rfl ?_); refine box_event ?hg (N := 7) ?hd (cs := #[.int .i64 0, .int .i64 0, .int .i64 0, .slice none 0 0]) (t := 42) ?hr ?_; (case hd => rfl); (case hg => rfl); (case hr => first | (go_simp; done) | (go_simp; rfl)); intro g6 hg w11 hbox hb; revert hbox hb hg))
  intro hgN hbN hBc
  have BKn := Aside0.mk hbN
  have hgN_ := Aside0.mk hgN
  have hB_3 := below_step hB_2 hBc
  clear hgN hbN
  have z0 : w11.cell? ⟨g6, 0, none⟩ = some (.int .i64 0) := (blk_cell BKn.out 0).trans rfl
  have zf0 := blk_frozen BKn.out 0
  have z1 : w11.cell? ⟨g6, 1, none⟩ = some (.int .i64 0) := (blk_cell BKn.out 1).trans rfl
  have zf1 := blk_frozen BKn.out 1
  have z2 : w11.cell? ⟨g6, 2, none⟩ = some (.int .i64 0) := (blk_cell BKn.out 2).trans rfl
  have zf2 := blk_frozen BKn.out 2
  have z3 : w11.cell? ⟨g6, 3, none⟩ = some (.slice none 0 0) := (blk_cell BKn.out 3).trans rfl
  have zf3 := blk_frozen BKn.out 3
  refine store_event (t := 42) (p := 7) (v := ?vo7) (w1 := (World.setCell (World.setCell (World.setCell (World.setCell w11 ⟨g6, 0, none⟩ (.int .i64 r1)) ⟨g6, 1, none⟩ (.int .i64 r2)) ⟨g6, 2, none⟩ (.int .i64 r3)) ⟨g6, 3, none⟩ (.slice Ag r4.length cg))) ?hg ?ho ?hn ?hr ?_
  case ho => rfl
  case hg => rfl
  case hn => rfl
  case hr => first | (go_simp; done) | (go_simp; rfl)
  intro w12 hw_
  clear z0 zf0 z1 zf1 z2 zf2 z3 zf3
  have hKB : KeepBut w11 w12 g6 none := by rw [hw_]; exact (((KeepBut.refl _ _ _).set_ 0 _).set_ 1 _).set_ 2 _ |>.set_ 3 _
  have hsz : w9.heap.size ≤ g6 := by rw [hgN_.out]; exact hB_2.size
  have hold : ∀ k, k < w9.heap.size → w12.heap[k]? = w9.heap[k]? := fun k hk => (hKB.2 k (Nat.lt_of_lt_of_le hk hB_3.size) (by omega) (by simp)).trans (hB_3.block k hk)
  have n0_ := Aside0.mk (show w12.heap[g6]? = some (.cells #[.int .i64 r1, .int .i64 r2, .int .i64 r3, .slice Ag r4.length cg] 42 (0, 0)) by rw [hw_]; exact blk_put (cs := #[.int .i64 r1, .int .i64 r2, .int .i64 r3, .slice none 0 0]) (blk_put (cs := #[.int .i64 r1, .int .i64 r2, .int .i64 0, .slice none 0 0]) (blk_put (cs := #[.int .i64 r1, .int .i64 0, .int .i64 0, .slice none 0 0]) (blk_put (cs := #[.int .i64 0, .int .i64 0, .int .i64 0, .slice none 0 0]) BKn.out 0 _ rfl) 1 _ rfl) 2 _ rfl) 3 _ rfl)
  have n2_ := Aside0.mk (show Kd.S (Kd.slice 103 k103) 88 w12 w.heap.size (fun k_ => w9.heap.size ≤ k_ ∧ k_ < g6) (.slice Ag r4.length cg) r4 from Kd.S_step (Kd.S_lower (Kd.S_below (Kd.S_mono (Kd.S_bound hS.out) (fun k_ hk => (show w9.heap.size ≤ k_ ∧ k_ < g6 from ⟨Nat.le_trans hlo hk.2.1, by rw [hgN_.out]; exact hk.2.2.1⟩))) hBc) (Nat.le_trans HB.out.size hlo)) (fun k_ hk hlt => hKB.2 k_ hlt (by omega) (by simp)))
  have BK1_ := Aside0.mk ((hold g1 (blk_lt BK1.out)).trans BK1.out)
  have BK3_ := Aside0.mk ((hold g3 (blk_lt BK3.out)).trans BK3.out)
  have BK5_ := Aside0.mk ((hold g5 (blk_lt BK5.out)).trans BK5.out)
  have S3_ := Aside0.mk (Kd.S_step S3.out (fun k_ hk hlt => hold k_ hlt))
  have S5_ := Aside0.mk (Kd.S_step S5.out (fun k_ hk hlt => hold k_ hlt))
  have HB_ := Aside0.mk (show Below w.heap.size w w12 by rw [hw_]; exact below_set (below_set (below_set (below_set (below_step HB.out hB_3) (Nat.le_trans HB.out.size hsz)) (Nat.le_trans HB.out.size hsz)) (Nat.le_trans HB.out.size hsz)) (Nat.le_trans HB.out.size hsz))
  clear HB S5 S3 BK5 BK3 BK1
  have BK1 := BK1_
  clear BK1_
  have BK3 := BK3_
  clear BK3_
  have BK5 := BK5_
  clear BK5_
  have S3 := S3_
  clear S3_
  have S5 := S5_
  clear S5_
  have HB := HB_
  clear HB_
  have BK6 := n0_
  have S6 := n2_
  have LLg6 := Aside0.mk hsz
  have LTg6 := Aside0.mk (blk_lt BK6.out)
  clear n0_ n2_ hold hsz hKB hw_ hB_0 hB_2 hB_3 hBb hBc hS hlo BKn hgN_
  have ug6_0 : w12.cell? ⟨g6, 0, none⟩ = some (.int .i64 r1) := (blk_cell BK6.out 0).trans rfl
  have ug6_1 : w12.cell? ⟨g6, 1, none⟩ = some (.int .i64 r2) := (blk_cell BK6.out 1).trans rfl
  have ug6_2 : w12.cell? ⟨g6, 2, none⟩ = some (.int .i64 r3) := (blk_cell BK6.out 2).trans rfl
  have ug6_3 : w12.cell? ⟨g6, 3, none⟩ = some (.slice Ag r4.length cg) := (blk_cell BK6.out 3).trans rfl
  have ug3_0 : w12.cell? ⟨g3, 0, none⟩ = some (.int .i64 r1) := (blk_cell BK3.out 0).trans rfl
  have ug3_1 : w12.cell? ⟨g3, 1, none⟩ = some (.int .i64 r2) := (blk_cell BK3.out 1).trans rfl
  have ug3_2 : w12.cell? ⟨g3, 2, none⟩ = some (.int .i64 r3) := (blk_cell BK3.out 2).trans rfl
  have ug3_3 : w12.cell? ⟨g3, 3, none⟩ = some (.slice Aw r4.length cw) := (blk_cell BK3.out 3).trans rfl
  go_wp2_with fail
  refine (laws_eqCache.calls k r1 r2 r3 Ag cg r4 r1 r2 r3 Aw cw r4 true _ (Kd.S_reads' S6.out).2.2 (Kd.S_reads' S6.out).2.1 (Kd.S_reads' S3.out).2.2 (Kd.S_reads' S3.out).2.1 heq).mono ?_
  rintro e w13 ⟨rfl, hBa⟩
  dsimp only
  clear ug6_0 ug6_1 ug6_2 ug6_3 ug3_0 ug3_1 ug3_2 ug3_3
  have BK1_ := Aside0.mk (blk_below BK1.out hBa)
  have BK3_ := Aside0.mk (blk_below BK3.out hBa)
  have BK5_ := Aside0.mk (blk_below BK5.out hBa)
  have BK6_ := Aside0.mk (blk_below BK6.out hBa)
  have S3_ := Aside0.mk (Kd.S_below S3.out hBa)
  have S5_ := Aside0.mk (Kd.S_below S5.out hBa)
  have S6_ := Aside0.mk (Kd.S_below S6.out hBa)
  have HB_ := Aside0.mk (below_step HB.out hBa)
  clear HB S6 S5 S3 BK6 BK5 BK3 BK1
  have BK1 := BK1_
  clear BK1_
  have BK3 := BK3_
  clear BK3_
  have BK5 := BK5_
  clear BK5_
  have BK6 := BK6_
  clear BK6_
  have S3 := S3_
  clear S3_
  have S5 := S5_
  clear S5_
  have S6 := S6_
  clear S6_
  have HB := HB_
  clear HB_
  clear hBa
  go_wp2
  have BK1_ := Aside0.mk (blk_drew BK1.out)
  have BK3_ := Aside0.mk (blk_drew BK3.out)
  have BK5_ := Aside0.mk (blk_drew BK5.out)
  have BK6_ := Aside0.mk (blk_drew BK6.out)
  have S3_ := Aside0.mk (Kd.S_drew S3.out)
  have S5_ := Aside0.mk (Kd.S_drew S5.out)
  have S6_ := Aside0.mk (Kd.S_drew S6.out)
  have HB_ := Aside0.mk (below_drew1 HB.out)
  clear HB S6 S5 S3 BK6 BK5 BK3 BK1
  have BK1 := BK1_
  clear BK1_
  have BK3 := BK3_
  clear BK3_
  have BK5 := BK5_
  clear BK5_
  have BK6 := BK6_
  clear BK6_
  have S3 := S3_
  clear S3_
  have S5 := S5_
  clear S5_
  have S6 := S6_
  clear S6_
  have HB := HB_
  clear HB_
  refine start_ (n := 5) (S := fun w' => w'.cell? ⟨g5, 0, none⟩ = some (.int .i64 a) ∧ w'.cell? ⟨g5, 1, none⟩ = some (.int .i64 b) ∧ w'.cell? ⟨g5, 2, none⟩ = some (.int .i64 c) ∧ w'.cell? ⟨g5, 3, none⟩ = some (.slice Ax L.length cx) ∧ w'.cell? ⟨g1, 0, none⟩ = some (.int .i64 a) ∧ w'.cell? ⟨g1, 1, none⟩ = some (.int .i64 b) ∧ w'.cell? ⟨g1, 2, none⟩ = some (.int .i64 c) ∧ w'.cell? ⟨g1, 3, none⟩ = some (.slice A l.length cp)) (ds := []) #[false, false, false, false, false] (by kernel_rfl) rfl rfl ⟨(blk_cell BK5.out 0).trans rfl, (blk_cell BK5.out 1).trans rfl, (blk_cell BK5.out 2).trans rfl, (blk_cell BK5.out 3).trans rfl, (blk_cell BK1.out 0).trans rfl, (blk_cell BK1.out 1).trans rfl, (blk_cell BK1.out 2).trans rfl, (blk_cell BK1.out 3).trans rfl⟩ (fun hHeld => ?_)
  generalize w13.drew = w14 at BK1 BK3 BK5 BK6 S3 S5 S6 HB hHeld ⊢
  refine take_ (i := 0) (N := some 41) (v := ?_) (a' := ?_) #[true, false, false, false, false] rfl rfl (by kernel_rfl) (fun _ _ _ h => h) (Or.inl ⟨by rfl, ?_⟩) hHeld ?_ ?_
  rotate_left
  · rintro w' ⟨s0, s1, s2, s3, s4, s5, s6, s7⟩
    go_simp
    with_reducible rfl
  rotate_left
  · simp only [Act.put, List.setIfInBounds_toArray, List.set_cons_zero, List.set_cons_succ, i64_w, i32_w]
    rfl
  refine take_ (i := 1) (N := some 42) (v := ?_) (a' := ?_) #[true, true, false, false, false] rfl rfl (by kernel_rfl) (fun _ _ _ h => h) (Or.inl ⟨by rfl, ?_⟩) hHeld ?_ ?_
  rotate_left
  · rintro w' ⟨s0, s1, s2, s3, s4, s5, s6, s7⟩
    go_simp
    with_reducible rfl
  rotate_left
  · simp only [Act.put, List.setIfInBounds_toArray, List.set_cons_zero, List.set_cons_succ, i64_w, i32_w]
    rfl
  refine one_ (i := 2) (N := some 43) #[true, true, true, false, false] rfl rfl (by kernel_rfl) (by decide) (fun K hK => ?_)
  refine goes_ Try.func44 (by kernel_rfl) rfl #[.agg #[.int .i64 a, .int .i64 b, .int .i64 c, .slice A l.length cp]] (by rfl) rfl rfl (by (try simp only [List.map_toArray, List.map_cons, List.map_nil]); first | done | rfl) ?_
  refine (laws_toCache.calls k a b c A cp l a b c L _ (Kd.C_below HC.out HB.out) HCc.out hto).mono ?_
  rintro e w15 ⟨vt, rfl, hSt, hBa⟩
  obtain ⟨At, ct, rfl⟩ := Kd.S_slice hSt
  have hSt := Aside0.mk hSt
  refine ⟨_, rfl, ?_⟩
  have BK1_ := Aside0.mk (blk_below BK1.out hBa)
  have BK3_ := Aside0.mk (blk_below BK3.out hBa)
  have BK5_ := Aside0.mk (blk_below BK5.out hBa)
  have BK6_ := Aside0.mk (blk_below BK6.out hBa)
  have S3_ := Aside0.mk (Kd.S_below S3.out hBa)
  have S5_ := Aside0.mk (Kd.S_below S5.out hBa)
  have S6_ := Aside0.mk (Kd.S_below S6.out hBa)
  have HB_ := Aside0.mk (below_step HB.out hBa)
  clear HB S6 S5 S3 BK6 BK5 BK3 BK1
  have BK1 := BK1_
  clear BK1_
  have BK3 := BK3_
  clear BK3_
  have BK5 := BK5_
  clear BK5_
  have BK6 := BK6_
  clear BK6_
  have S3 := S3_
  clear S3_
  have S5 := S5_
  clear S5_
  have S6 := S6_
  clear S6_
  have HB := HB_
  clear HB_
  clear hBa
  refine hK.out _ _ ⟨(blk_cell BK5.out 0).trans rfl, (blk_cell BK5.out 1).trans rfl, (blk_cell BK5.out 2).trans rfl, (blk_cell BK5.out 3).trans rfl, (blk_cell BK1.out 0).trans rfl, (blk_cell BK1.out 1).trans rfl, (blk_cell BK1.out 2).trans rfl, (blk_cell BK1.out 3).trans rfl⟩ (fun hHeld => ?_)
  clear hK K
  refine norm_ (a' := ?_) ?_ ?_
  rotate_left
  · show Act.put _ (some 43) _ = _
    simp only [Act.put, List.setIfInBounds_toArray, List.set_cons_zero, List.set_cons_succ, i64_w, i32_w]
    rfl
  have ST := Aside0.mk (Kd.S_mono (ok' := fun _ => True) hSt.out (fun _ _ => trivial))
  clear hSt
  refine one_ (i := 3) (N := some 44) #[true, true, true, true, false] rfl rfl (by kernel_rfl) (by decide) (fun K hK => ?_)
  refine goes_ Try.func25 (by kernel_rfl) rfl #[.agg #[.int .i64 a, .int .i64 b, .int .i64 c, .slice Ax L.length cx], .agg #[.int .i64 a, .int .i64 b, .int .i64 c, .slice At L.length ct]] (by rfl) rfl rfl (by (try simp only [List.map_toArray, List.map_cons, List.map_nil]); first | done | rfl) ?_
  refine (laws_eqCache.calls k a b c Ax cx L a b c At ct L true _ (Kd.S_reads' S5.out).2.2 (Kd.S_reads' S5.out).2.1 (Kd.S_reads' ST.out).2.2 (Kd.S_reads' ST.out).2.1 heqx).mono ?_
  rintro e w16 ⟨rfl, hBa⟩
  refine ⟨_, rfl, ?_⟩
  have BK1_ := Aside0.mk (blk_below BK1.out hBa)
  have BK3_ := Aside0.mk (blk_below BK3.out hBa)
  have BK5_ := Aside0.mk (blk_below BK5.out hBa)
  have BK6_ := Aside0.mk (blk_below BK6.out hBa)
  have S3_ := Aside0.mk (Kd.S_below S3.out hBa)
  have S5_ := Aside0.mk (Kd.S_below S5.out hBa)
  have S6_ := Aside0.mk (Kd.S_below S6.out hBa)
  have HB_ := Aside0.mk (below_step HB.out hBa)
  clear HB S6 S5 S3 BK6 BK5 BK3 BK1
  have BK1 := BK1_
  clear BK1_
  have BK3 := BK3_
  clear BK3_
  have BK5 := BK5_
  clear BK5_
  have BK6 := BK6_
  clear BK6_
  have S3 := S3_
  clear S3_
  have S5 := S5_
  clear S5_
  have S6 := S6_
  clear S6_
  have HB := HB_
  clear HB_
  clear hBa
  refine hK.out _ _ ⟨(blk_cell BK5.out 0).trans rfl, (blk_cell BK5.out 1).trans rfl, (blk_cell BK5.out 2).trans rfl, (blk_cell BK5.out 3).trans rfl, (blk_cell BK1.out 0).trans rfl, (blk_cell BK1.out 1).trans rfl, (blk_cell BK1.out 2).trans rfl, (blk_cell BK1.out 3).trans rfl⟩ (fun hHeld => ?_)
  clear hK K
  refine norm_ (a' := ?_) ?_ ?_
  rotate_left
  · show Act.put _ (some 44) _ = _
    simp only [Act.put, List.setIfInBounds_toArray, List.set_cons_zero, List.set_cons_succ, i64_w, i32_w]
    rfl
  refine pure_ (i := 4) (N := some 45) (v := ?_) (a' := ?_) #[true, true, true, true, true] rfl rfl (by kernel_rfl) (fun _ _ _ h => h) (Or.inl ⟨by rfl, ?_⟩) ?_ ?_
  rotate_left
  · intro w'
    go_simp
    with_reducible rfl
  rotate_left
  · simp only [Act.put, List.setIfInBounds_toArray, List.set_cons_zero, List.set_cons_succ, i64_w, i32_w]
    rfl
  refine done_ (by kernel_rfl) ?_
  clear ST hHeld
  have ug5_0 : w16.cell? ⟨g5, 0, none⟩ = some (.int .i64 a) := (blk_cell BK5.out 0).trans rfl
  have ug5_1 : w16.cell? ⟨g5, 1, none⟩ = some (.int .i64 b) := (blk_cell BK5.out 1).trans rfl
  have ug5_2 : w16.cell? ⟨g5, 2, none⟩ = some (.int .i64 c) := (blk_cell BK5.out 2).trans rfl
  have ug5_3 : w16.cell? ⟨g5, 3, none⟩ = some (.slice Ax L.length cx) := (blk_cell BK5.out 3).trans rfl
  go_wp2_with fail
  refine (laws_markCache.calls k (fun k_ => w6.heap.size ≤ k_ ∧ k_ < g5) a b c _ L 1 mx Lx w _ HB.out S5.out hmx).mono ?_
  rintro e w17 ⟨rfl, hS, hB, hK⟩
  dsimp only
  clear ug5_0 ug5_1 ug5_2 ug5_3
  have hS := Aside0.mk hS
  have hq := hK.2
  have o_LBg3 := LBg3.out
  have o_LTg3 := LTg3.out
  have o_LLg3 := LLg3.out
  have o_LBg5 := LBg5.out
  have o_LTg5 := LTg5.out
  have o_LLg5 := LLg5.out
  have o_LBg6 := LBg6.out
  have o_LTg6 := LTg6.out
  have o_LLg6 := LLg6.out
  have BK1_ := Aside0.mk ((hq g1 (blk_lt BK1.out) (fun h => by have h1 := h.1; have h2 := h.2; omega)).trans BK1.out)
  have BK3_ := Aside0.mk ((hq g3 (blk_lt BK3.out) (fun h => by have h1 := h.1; have h2 := h.2; omega)).trans BK3.out)
  have BK5_ := Aside0.mk ((hq g5 (blk_lt BK5.out) (fun h => by have h1 := h.1; have h2 := h.2; omega)).trans BK5.out)
  have BK6_ := Aside0.mk ((hq g6 (blk_lt BK6.out) (fun h => by have h1 := h.1; have h2 := h.2; omega)).trans BK6.out)
  have S3_ := Aside0.mk (Kd.S_step S3.out (fun k_ hk hlt => hq k_ hlt (fun h => by have h1 := h.1; have h2 := h.2; have h3 := hk.1; have h4 := hk.2; omega)))
  have S6_ := Aside0.mk (Kd.S_step S6.out (fun k_ hk hlt => hq k_ hlt (fun h => by have h1 := h.1; have h2 := h.2; have h3 := hk.1; have h4 := hk.2; omega)))
  have HB_ := Aside0.mk hB
  clear o_LBg3 o_LTg3 o_LLg3 o_LBg5 o_LTg5 o_LLg5 o_LBg6 o_LTg6 o_LLg6
  clear hq hK hB HB S6 S5 S3 BK6 BK5 BK3 BK1
  have BK1 := BK1_
  clear BK1_
  have BK3 := BK3_
  clear BK3_
  have BK5 := BK5_
  clear BK5_
  have BK6 := BK6_
  clear BK6_
  have S3 := S3_
  clear S3_
  have S6 := S6_
  clear S6_
  have HB := HB_
  clear HB_
  clear hS
  have ug6_0 : w17.cell? ⟨g6, 0, none⟩ = some (.int .i64 r1) := (blk_cell BK6.out 0).trans rfl
  have ug6_1 : w17.cell? ⟨g6, 1, none⟩ = some (.int .i64 r2) := (blk_cell BK6.out 1).trans rfl
  have ug6_2 : w17.cell? ⟨g6, 2, none⟩ = some (.int .i64 r3) := (blk_cell BK6.out 2).trans rfl
  have ug6_3 : w17.cell? ⟨g6, 3, none⟩ = some (.slice Ag r4.length cg) := (blk_cell BK6.out 3).trans rfl
  have ug3_0 : w17.cell? ⟨g3, 0, none⟩ = some (.int .i64 r1) := (blk_cell BK3.out 0).trans rfl
  have ug3_1 : w17.cell? ⟨g3, 1, none⟩ = some (.int .i64 r2) := (blk_cell BK3.out 1).trans rfl
  have ug3_2 : w17.cell? ⟨g3, 2, none⟩ = some (.int .i64 r3) := (blk_cell BK3.out 2).trans rfl
  have ug3_3 : w17.cell? ⟨g3, 3, none⟩ = some (.slice Aw r4.length cw) := (blk_cell BK3.out 3).trans rfl
  go_wp2_with fail
  refine (laws_eqCache.calls k r1 r2 r3 Ag cg r4 r1 r2 r3 Aw cw r4 true _ (Kd.S_reads' S6.out).2.2 (Kd.S_reads' S6.out).2.1 (Kd.S_reads' S3.out).2.2 (Kd.S_reads' S3.out).2.1 heq).mono ?_
  rintro e w18 ⟨rfl, hBa⟩
  dsimp only
  clear ug6_0 ug6_1 ug6_2 ug6_3 ug3_0 ug3_1 ug3_2 ug3_3
  have BK1_ := Aside0.mk (blk_below BK1.out hBa)
  have BK3_ := Aside0.mk (blk_below BK3.out hBa)
  have BK5_ := Aside0.mk (blk_below BK5.out hBa)
  have BK6_ := Aside0.mk (blk_below BK6.out hBa)
  have S3_ := Aside0.mk (Kd.S_below S3.out hBa)
  have S6_ := Aside0.mk (Kd.S_below S6.out hBa)
  have HB_ := Aside0.mk (below_step HB.out hBa)
  clear HB S6 S3 BK6 BK5 BK3 BK1
  have BK1 := BK1_
  clear BK1_
  have BK3 := BK3_
  clear BK3_
  have BK5 := BK5_
  clear BK5_
  have BK6 := BK6_
  clear BK6_
  have S3 := S3_
  clear S3_
  have S6 := S6_
  clear S6_
  have HB := HB_
  clear HB_
  clear hBa
  have ug6_0 : w18.cell? ⟨g6, 0, none⟩ = some (.int .i64 r1) := (blk_cell BK6.out 0).trans rfl
  have ug6_1 : w18.cell? ⟨g6, 1, none⟩ = some (.int .i64 r2) := (blk_cell BK6.out 1).trans rfl
  have ug6_2 : w18.cell? ⟨g6, 2, none⟩ = some (.int .i64 r3) := (blk_cell BK6.out 2).trans rfl
  have ug6_3 : w18.cell? ⟨g6, 3, none⟩ = some (.slice Ag r4.length cg) := (blk_cell BK6.out 3).trans rfl
  go_wp2_with fail
  refine (laws_markCache.calls k (fun k_ => w9.heap.size ≤ k_ ∧ k_ < g6) r1 r2 r3 _ r4 1 m l' w _ HB.out S6.out hmk).mono ?_
  rintro e w19 ⟨rfl, hS, hB, hK⟩
  dsimp only
  clear ug6_0 ug6_1 ug6_2 ug6_3
  have hS := Aside0.mk hS
  have hq := hK.2
  have o_LBg3 := LBg3.out
  have o_LTg3 := LTg3.out
  have o_LLg3 := LLg3.out
  have o_LBg5 := LBg5.out
  have o_LTg5 := LTg5.out
  have o_LLg5 := LLg5.out
  have o_LBg6 := LBg6.out
  have o_LTg6 := LTg6.out
  have o_LLg6 := LLg6.out
  have BK1_ := Aside0.mk ((hq g1 (blk_lt BK1.out) (fun h => by have h1 := h.1; have h2 := h.2; omega)).trans BK1.out)
  have BK3_ := Aside0.mk ((hq g3 (blk_lt BK3.out) (fun h => by have h1 := h.1; have h2 := h.2; omega)).trans BK3.out)
  have BK5_ := Aside0.mk ((hq g5 (blk_lt BK5.out) (fun h => by have h1 := h.1; have h2 := h.2; omega)).trans BK5.out)
  have BK6_ := Aside0.mk ((hq g6 (blk_lt BK6.out) (fun h => by have h1 := h.1; have h2 := h.2; omega)).trans BK6.out)
  have S3_ := Aside0.mk (Kd.S_step S3.out (fun k_ hk hlt => hq k_ hlt (fun h => by have h1 := h.1; have h2 := h.2; have h3 := hk.1; have h4 := hk.2; omega)))
  have HB_ := Aside0.mk hB
  clear o_LBg3 o_LTg3 o_LLg3 o_LBg5 o_LTg5 o_LLg5 o_LBg6 o_LTg6 o_LLg6
  clear hq hK hB HB S6 S3 BK6 BK5 BK3 BK1
  have BK1 := BK1_
  clear BK1_
  have BK3 := BK3_
  clear BK3_
  have BK5 := BK5_
  clear BK5_
  have BK6 := BK6_
  clear BK6_
  have S3 := S3_
  clear S3_
  have HB := HB_
  clear HB_
  have S6 := hS
  clear hS
  have GL := Aside0.mk (Kd.S_reads' S6.out).1
  have GC := Aside0.mk (Kd.S_reads' S6.out).2.1
  have ug6_0 : w19.cell? ⟨g6, 0, none⟩ = some (.int .i64 r1) := (blk_cell BK6.out 0).trans rfl
  have ug6_1 : w19.cell? ⟨g6, 1, none⟩ = some (.int .i64 r2) := (blk_cell BK6.out 1).trans rfl
  have ug6_2 : w19.cell? ⟨g6, 2, none⟩ = some (.int .i64 r3) := (blk_cell BK6.out 2).trans rfl
  have ug6_3 : w19.cell? ⟨g6, 3, none⟩ = some (.slice Ag r4.length cg) := (blk_cell BK6.out 3).trans rfl
  go_wp2_with fail
  rw [(show r4.length = l'.length from GL.out)]
  refine (laws_heldCache.calls k r1 r2 r3 Ag cg l' 1 m _ (Kd.S_reads' S6.out).2.2 (by rw [← (show r4.length = l'.length from GL.out)]; exact GC.out) hhd).mono ?_
  rintro e w20 ⟨rfl, hBa⟩
  dsimp only
  rw [← (show r4.length = l'.length from GL.out)]
  clear ug6_0 ug6_1 ug6_2 ug6_3
  have BK1_ := Aside0.mk (blk_below BK1.out hBa)
  have BK3_ := Aside0.mk (blk_below BK3.out hBa)
  have BK5_ := Aside0.mk (blk_below BK5.out hBa)
  have BK6_ := Aside0.mk (blk_below BK6.out hBa)
  have S3_ := Aside0.mk (Kd.S_below S3.out hBa)
  have S6_ := Aside0.mk (Kd.S_below S6.out hBa)
  have HB_ := Aside0.mk (below_step HB.out hBa)
  clear HB S6 S3 BK6 BK5 BK3 BK1
  have BK1 := BK1_
  clear BK1_
  have BK3 := BK3_
  clear BK3_
  have BK5 := BK5_
  clear BK5_
  have BK6 := BK6_
  clear BK6_
  have S3 := S3_
  clear S3_
  have S6 := S6_
  clear S6_
  have HB := HB_
  clear HB_
  clear hBa
  have LBg12 := Aside0.mk (blk_lt BK1.out)
  have ug1_0 : w20.cell? ⟨g1, 0, none⟩ = some (.int .i64 a) := (blk_cell BK1.out 0).trans rfl
  have ug1_1 : w20.cell? ⟨g1, 1, none⟩ = some (.int .i64 b) := (blk_cell BK1.out 1).trans rfl
  have ug1_2 : w20.cell? ⟨g1, 2, none⟩ = some (.int .i64 c) := (blk_cell BK1.out 2).trans rfl
  have ug1_3 : w20.cell? ⟨g1, 3, none⟩ = some (.slice A l.length cp) := (blk_cell BK1.out 3).trans rfl
  have hB_0 : Below w20.heap.size w20 w20 := Below.refl _ _
  go_wp2_with fail
  refine (laws_toCache.calls k a b c A cp l a b c L _ (Kd.C_below HC.out HB.out) HCc.out hto).mono ?_
  rintro e w21 ⟨vt, rfl, hSt, hBt⟩
  dsimp only
  obtain ⟨At, ct, rfl⟩ := Kd.S_slice hSt
  clear ug1_0 ug1_1 ug1_2 ug1_3
  have hSt := Aside0.mk hSt
  have hB_1 := below_step hB_0 hBt
  clear hBt
  go_wp2_with fail
  refine (impl_CacheFlush.calls k a b c At ct L r1 r2 r3 r4 n _ (Kd.S_reads' hSt.out).2.2 (Kd.S_reads' hSt.out).2.1 him).mono ?_
  rintro e w22 ⟨vn, rfl, hS, hBb⟩
  dsimp only
  obtain ⟨Ah, ch, rfl⟩ := Kd.S_slice hS
  have hS := Aside0.mk hS
  have hB_2 := below_step hB_1 hBb
  have hlo : w20.heap.size ≤ w21.heap.size := hB_1.size
  go_wp2_with (first | ((with_reducible refine gate_dst (N := 12) rfl ?_); refine box_event ?hg (N := 12) ?hd (cs := #[.int .i64 0, .int .i64 0, .int .i64 0, .slice none 0 0]) (t := 42) ?hr ?_; (case hd => rfl); (case hg => rfl); (case hr => first | (go_simp; done) | (go_simp; rfl)); intro g12 hg w23 hbox hb; revert hbox hb hg))
  intro hgN hbN hBc
  have BKn := Aside0.mk hbN
  have hgN_ := Aside0.mk hgN
  have hB_3 := below_step hB_2 hBc
  clear hgN hbN
  have z0 : w23.cell? ⟨g12, 0, none⟩ = some (.int .i64 0) := (blk_cell BKn.out 0).trans rfl
  have zf0 := blk_frozen BKn.out 0
  have z1 : w23.cell? ⟨g12, 1, none⟩ = some (.int .i64 0) := (blk_cell BKn.out 1).trans rfl
  have zf1 := blk_frozen BKn.out 1
  have z2 : w23.cell? ⟨g12, 2, none⟩ = some (.int .i64 0) := (blk_cell BKn.out 2).trans rfl
  have zf2 := blk_frozen BKn.out 2
  have z3 : w23.cell? ⟨g12, 3, none⟩ = some (.slice none 0 0) := (blk_cell BKn.out 3).trans rfl
  have zf3 := blk_frozen BKn.out 3
  refine store_event (t := 42) (p := 12) (v := ?vo12) (w1 := (World.setCell (World.setCell (World.setCell (World.setCell w23 ⟨g12, 0, none⟩ (.int .i64 r1)) ⟨g12, 1, none⟩ (.int .i64 r2)) ⟨g12, 2, none⟩ (.int .i64 r3)) ⟨g12, 3, none⟩ (.slice Ah r4.length ch))) ?hg ?ho ?hn ?hr ?_
  case ho => rfl
  case hg => rfl
  case hn => rfl
  case hr => first | (go_simp; done) | (go_simp; rfl)
  intro w24 hw_
  clear z0 zf0 z1 zf1 z2 zf2 z3 zf3
  have hKB : KeepBut w23 w24 g12 none := by rw [hw_]; exact (((KeepBut.refl _ _ _).set_ 0 _).set_ 1 _).set_ 2 _ |>.set_ 3 _
  have hsz : w20.heap.size ≤ g12 := by rw [hgN_.out]; exact hB_2.size
  have hold : ∀ k, k < w20.heap.size → w24.heap[k]? = w20.heap[k]? := fun k hk => (hKB.2 k (Nat.lt_of_lt_of_le hk hB_3.size) (by omega) (by simp)).trans (hB_3.block k hk)
  have n0_ := Aside0.mk (show w24.heap[g12]? = some (.cells #[.int .i64 r1, .int .i64 r2, .int .i64 r3, .slice Ah r4.length ch] 42 (0, 0)) by rw [hw_]; exact blk_put (cs := #[.int .i64 r1, .int .i64 r2, .int .i64 r3, .slice none 0 0]) (blk_put (cs := #[.int .i64 r1, .int .i64 r2, .int .i64 0, .slice none 0 0]) (blk_put (cs := #[.int .i64 r1, .int .i64 0, .int .i64 0, .slice none 0 0]) (blk_put (cs := #[.int .i64 0, .int .i64 0, .int .i64 0, .slice none 0 0]) BKn.out 0 _ rfl) 1 _ rfl) 2 _ rfl) 3 _ rfl)
  have n2_ := Aside0.mk (show Kd.S (Kd.slice 103 k103) 88 w24 w.heap.size (fun k_ => w20.heap.size ≤ k_ ∧ k_ < g12) (.slice Ah r4.length ch) r4 from Kd.S_step (Kd.S_lower (Kd.S_below (Kd.S_mono (Kd.S_bound hS.out) (fun k_ hk => (show w20.heap.size ≤ k_ ∧ k_ < g12 from ⟨Nat.le_trans hlo hk.2.1, by rw [hgN_.out]; exact hk.2.2.1⟩))) hBc) (Nat.le_trans HB.out.size hlo)) (fun k_ hk hlt => hKB.2 k_ hlt (by omega) (by simp)))
  have BK1_ := Aside0.mk ((hold g1 (blk_lt BK1.out)).trans BK1.out)
  have BK3_ := Aside0.mk ((hold g3 (blk_lt BK3.out)).trans BK3.out)
  have BK5_ := Aside0.mk ((hold g5 (blk_lt BK5.out)).trans BK5.out)
  have BK6_ := Aside0.mk ((hold g6 (blk_lt BK6.out)).trans BK6.out)
  have S3_ := Aside0.mk (Kd.S_step S3.out (fun k_ hk hlt => hold k_ hlt))
  have S6_ := Aside0.mk (Kd.S_step S6.out (fun k_ hk hlt => hold k_ hlt))
  have HB_ := Aside0.mk (show Below w.heap.size w w24 by rw [hw_]; exact below_set (below_set (below_set (below_set (below_step HB.out hB_3) (Nat.le_trans HB.out.size hsz)) (Nat.le_trans HB.out.size hsz)) (Nat.le_trans HB.out.size hsz)) (Nat.le_trans HB.out.size hsz))
  clear HB S6 S3 BK6 BK5 BK3 BK1
  have BK1 := BK1_
  clear BK1_
  have BK3 := BK3_
  clear BK3_
  have BK5 := BK5_
  clear BK5_
  have BK6 := BK6_
  clear BK6_
  have S3 := S3_
  clear S3_
  have S6 := S6_
  clear S6_
  have HB := HB_
  clear HB_
  have BK12 := n0_
  have S12 := n2_
  have LLg12 := Aside0.mk hsz
  have LTg12 := Aside0.mk (blk_lt BK12.out)
  clear n0_ n2_ hold hsz hKB hw_ hB_0 hB_2 hB_3 hBb hBc hS hlo BKn hgN_ hB_1 hSt
  have ug12_0 : w24.cell? ⟨g12, 0, none⟩ = some (.int .i64 r1) := (blk_cell BK12.out 0).trans rfl
  have ug12_1 : w24.cell? ⟨g12, 1, none⟩ = some (.int .i64 r2) := (blk_cell BK12.out 1).trans rfl
  have ug12_2 : w24.cell? ⟨g12, 2, none⟩ = some (.int .i64 r3) := (blk_cell BK12.out 2).trans rfl
  have ug12_3 : w24.cell? ⟨g12, 3, none⟩ = some (.slice Ah r4.length ch) := (blk_cell BK12.out 3).trans rfl
  have ug3_0 : w24.cell? ⟨g3, 0, none⟩ = some (.int .i64 r1) := (blk_cell BK3.out 0).trans rfl
  have ug3_1 : w24.cell? ⟨g3, 1, none⟩ = some (.int .i64 r2) := (blk_cell BK3.out 1).trans rfl
  have ug3_2 : w24.cell? ⟨g3, 2, none⟩ = some (.int .i64 r3) := (blk_cell BK3.out 2).trans rfl
  have ug3_3 : w24.cell? ⟨g3, 3, none⟩ = some (.slice Aw r4.length cw) := (blk_cell BK3.out 3).trans rfl
  go_wp2_with fail
  refine (laws_eqCache.calls k r1 r2 r3 Ah ch r4 r1 r2 r3 Aw cw r4 true _ (Kd.S_reads' S12.out).2.2 (Kd.S_reads' S12.out).2.1 (Kd.S_reads' S3.out).2.2 (Kd.S_reads' S3.out).2.1 heq).mono ?_
  rintro e w25 ⟨rfl, hBa⟩
  dsimp only
  clear ug12_0 ug12_1 ug12_2 ug12_3 ug3_0 ug3_1 ug3_2 ug3_3
  have BK1_ := Aside0.mk (blk_below BK1.out hBa)
  have BK3_ := Aside0.mk (blk_below BK3.out hBa)
  have BK5_ := Aside0.mk (blk_below BK5.out hBa)
  have BK6_ := Aside0.mk (blk_below BK6.out hBa)
  have BK12_ := Aside0.mk (blk_below BK12.out hBa)
  have S3_ := Aside0.mk (Kd.S_below S3.out hBa)
  have S6_ := Aside0.mk (Kd.S_below S6.out hBa)
  have S12_ := Aside0.mk (Kd.S_below S12.out hBa)
  have HB_ := Aside0.mk (below_step HB.out hBa)
  clear HB S12 S6 S3 BK12 BK6 BK5 BK3 BK1
  have BK1 := BK1_
  clear BK1_
  have BK3 := BK3_
  clear BK3_
  have BK5 := BK5_
  clear BK5_
  have BK6 := BK6_
  clear BK6_
  have BK12 := BK12_
  clear BK12_
  have S3 := S3_
  clear S3_
  have S6 := S6_
  clear S6_
  have S12 := S12_
  clear S12_
  have HB := HB_
  clear HB_
  clear hBa
  have ug6_0 : w25.cell? ⟨g6, 0, none⟩ = some (.int .i64 r1) := (blk_cell BK6.out 0).trans rfl
  have ug6_1 : w25.cell? ⟨g6, 1, none⟩ = some (.int .i64 r2) := (blk_cell BK6.out 1).trans rfl
  have ug6_2 : w25.cell? ⟨g6, 2, none⟩ = some (.int .i64 r3) := (blk_cell BK6.out 2).trans rfl
  have ug6_3 : w25.cell? ⟨g6, 3, none⟩ = some (.slice Ag r4.length cg) := (blk_cell BK6.out 3).trans rfl
  go_wp2_with fail
  rw [(show r4.length = l'.length from GL.out)]
  refine (laws_heldCache.calls k r1 r2 r3 Ag cg l' 1 m _ (Kd.S_reads' S6.out).2.2 (by rw [← (show r4.length = l'.length from GL.out)]; exact GC.out) hhd).mono ?_
  rintro e w26 ⟨rfl, hBa⟩
  dsimp only
  rw [← (show r4.length = l'.length from GL.out)]
  clear ug6_0 ug6_1 ug6_2 ug6_3
  have BK1_ := Aside0.mk (blk_below BK1.out hBa)
  have BK3_ := Aside0.mk (blk_below BK3.out hBa)
  have BK5_ := Aside0.mk (blk_below BK5.out hBa)
  have BK6_ := Aside0.mk (blk_below BK6.out hBa)
  have BK12_ := Aside0.mk (blk_below BK12.out hBa)
  have S3_ := Aside0.mk (Kd.S_below S3.out hBa)
  have S6_ := Aside0.mk (Kd.S_below S6.out hBa)
  have S12_ := Aside0.mk (Kd.S_below S12.out hBa)
  have HB_ := Aside0.mk (below_step HB.out hBa)
  clear HB S12 S6 S3 BK12 BK6 BK5 BK3 BK1
  have BK1 := BK1_
  clear BK1_
  have BK3 := BK3_
  clear BK3_
  have BK5 := BK5_
  clear BK5_
  have BK6 := BK6_
  clear BK6_
  have BK12 := BK12_
  clear BK12_
  have S3 := S3_
  clear S3_
  have S6 := S6_
  clear S6_
  have S12 := S12_
  clear S12_
  have HB := HB_
  clear HB_
  clear hBa
  go_wp2
  try go_ret
  exact ⟨by first | rfl | (simp; done), HB.out⟩

/-- What the walk asks of the functions that the law calls. -/
def Hyp (k : Nat) (a b c : Int) (l : List (List (S133))) (r : Bool) : Prop := r = true ∧ ∃ s : Int, laws_szCache.f k a b c l 1048576 = some s ∧ (s < 0 ∨ ∃ (r1 r2 r3 n m mx : Int) (L Lx r4 l' : List (List (S103))), laws_toCache.f k a b c l = some (a, b, c, L) ∧
  spec_CacheFlush.f k a b c L = some (r1, r2, r3, r4, n) ∧ impl_CacheFlush.f k a b c L = some (r1, r2, r3, r4, n) ∧ laws_eqCache.f k r1 r2 r3 r4 r1 r2 r3 r4 = some true ∧ laws_eqCache.f k a b c L a b c L = some true ∧
  laws_markWaySS.f k L 1 = some (mx, Lx) ∧ ¬ mx < 0 ∧ laws_markWaySS.f k r4 1 = some (m, l') ∧ laws_heldCache.f k r1 r2 r3 l' 1 = some m ∧ ¬ m < 0)
set_option maxHeartbeats 8000000 in
set_option maxRecDepth 100000 in
theorem laws_FnExactCacheFlush.walk0 (k : Nat) (a b c : Int) (A : Option Addr) (cp : Nat) (l : List (List (S133))) (s : Int) (w : World)
    (hr : Kd.C (Kd.slice 133 k133) w A l.length l) (hc : l.length ≤ cp) (hsz : laws_szCache.f k a b c l 1048576 = some s) (hs : s < 0) :
    Calls Try.prog 10 #[.agg #[.int .i64 a, .int .i64 b, .int .i64 c, .slice A l.length cp]] w fun e w' => e = .returned (.bool true) ∧ Below w.heap.size w w' := by
  have hu67 := Try.underlying67
  have hs0 : decide (s < 0) = true := decide_eq_true hs
  have HC := Aside0.mk hr
  have HCc := Aside0.mk hc
  have HB := Aside0.mk (Below.refl w.heap.size w)
  clear hr hc
  go_enter Try.func10, Try.ntmps10
  go_wp2_with (first | ((with_reducible refine gate_dst (N := 1) rfl ?_); refine box_event ?hg (N := 1) ?hd (cs := #[.int .i64 a, .int .i64 b, .int .i64 c, .slice A l.length cp]) (t := 67) ?hr ?_; (case hd => rfl); (case hg => rfl); (case hr => first | (go_simp; done) | (go_simp; rfl)); intro g1 hg w1 hbox hb; revert hbox hb hg))
  intro hg1 hb1 hB1
  have BK1 := Aside0.mk hb1
  have HB1 := Aside0.mk (below_step HB.out hB1)
  clear hg1 hb1 hB1 HB
  have HB := HB1
  clear HB1
  have LT1 := Aside0.mk (blk_lt BK1.out)
  have ug1_0 : w1.cell? ⟨g1, 0, none⟩ = some (.int .i64 a) := (blk_cell BK1.out 0).trans rfl
  have ug1_1 : w1.cell? ⟨g1, 1, none⟩ = some (.int .i64 b) := (blk_cell BK1.out 1).trans rfl
  have ug1_2 : w1.cell? ⟨g1, 2, none⟩ = some (.int .i64 c) := (blk_cell BK1.out 2).trans rfl
  have ug1_3 : w1.cell? ⟨g1, 3, none⟩ = some (.slice A l.length cp) := (blk_cell BK1.out 3).trans rfl
  go_wp2_with fail
  refine (laws_szCache.calls k a b c A cp l 1048576 s _ (Kd.C_below HC.out HB.out) HCc.out hsz).mono ?_
  rintro e w2 ⟨rfl, hBa⟩
  dsimp only
  clear ug1_0 ug1_1 ug1_2 ug1_3
  have BK1_ := Aside0.mk (blk_below BK1.out hBa)
  have HB_ := Aside0.mk (below_step HB.out hBa)
  clear HB BK1
  have BK1 := BK1_
  clear BK1_
  have HB := HB_
  clear HB_
  clear hBa
  go_wp2
  try go_ret
  exact ⟨by first | rfl | (simp; done), HB.out⟩
theorem laws_FnExactCacheFlush.calls (k : Nat) (a b c : Int) (A : Option Addr) (cp : Nat) (l : List (List (S133))) (r : Bool) (w : World) (hr : Kd.C (Kd.slice 133 k133) w A l.length l) (hc : l.length ≤ cp) (h : Hyp k a b c l r) :
    Calls Try.prog 10 #[.agg #[.int .i64 a, .int .i64 b, .int .i64 c, .slice A l.length cp]] w fun e w' => e = .returned (.bool r) ∧ Below w.heap.size w w' := by
  obtain ⟨rfl, s, h1, h2⟩ := h
  by_cases hs : s < 0
  · exact laws_FnExactCacheFlush.walk0 k a b c A cp l s w hr hc h1 hs
  · obtain ⟨r1, r2, r3, n, m, mx, L, Lx, r4, l', q1, q2, q3, q4, q5, q6, q7, q8, q9, q10⟩ := h2.resolve_left hs
    exact laws_FnExactCacheFlush.walk1 k a b c A cp l s r1 r2 r3 n m mx L Lx r4 l' w hr hc h1 hs q1 q2 q3 q4 q5 q6 q7 q8 q9 q10

end Go.Proofs.Ytboginbepgopeaa.PFnExactCacheFlush

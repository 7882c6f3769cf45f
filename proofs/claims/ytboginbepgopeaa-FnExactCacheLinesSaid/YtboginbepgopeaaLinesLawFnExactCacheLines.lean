/- The walk of laws.FnExactCacheLines, by hand, over the printed contracts and markCache's. Printed by gen_lineslaw.py. -/
import Derived.Test.YtboginbepgopeaaMarkFnExactCacheLines
import Derived.Test.YtboginbepgopeaaPFnExactCacheLinesx
namespace Go.Proofs.Ytboginbepgopeaa.PFnExactCacheLines
open Go.RowKit Go.Proofs.YtboginbepgopeaaW.PrintWords Go.Proofs.YtboginbepgopeaaW.PrintLast Go.Proofs.YtboginbepgopeaaW.PrintMore
attribute [local go_sem] max2_int min2_int max_two min_two max_three min_three max_four min_four
set_option linter.unusedVariables false
set_option linter.unusedSimpArgs false

set_option maxHeartbeats 8000000 in
set_option maxRecDepth 100000 in
theorem laws_FnExactCacheLines.walk1 (k : Nat) (a b c : Int) (A : Option Addr) (cp : Nat) (l : List (List (S133))) (s m mx : Int) (r r' : List Int) (L Lx : List (List (S103))) (w : World)
    (hr : Kd.C (Kd.slice 133 k133) w A l.length l) (hc : l.length ≤ cp)
    (hsz : laws_szCache.f k a b c l 1048576 = some s) (hs : ¬ s < 0) (hto : laws_toCache.f k a b c l = some (a, b, c, L))
    (hsp : spec_CacheLines.f k a b c L = some r) (him : impl_CacheLines.f k a b c L = some r)
    (heq : laws_eqIntS.f k r r = some true) (heqx : laws_eqCache.f k a b c L a b c L = some true)
    (hmx : laws_markWaySS.f k L 1 = some (mx, Lx)) (hmx0 : ¬ mx < 0)
    (hmk : laws_markIntS.f k r 1 = some (m, r')) (hhd : laws_heldIntS.f k r' 1 = some m) (hm : ¬ m < 0) :
    Calls Try.prog 13 #[.agg #[.int .i64 a, .int .i64 b, .int .i64 c, .slice A l.length cp]] w fun e w' => e = .returned (.bool true) ∧ Below w.heap.size w w' := by
  have hu42 := Try.underlying42
  have hu67 := Try.underlying67
  have hs0 : decide (s < 0) = false := decide_eq_false hs
  have hm0 : decide (m < 0) = false := decide_eq_false hm
  have hmx1 : decide (mx < 0) = false := decide_eq_false hmx0
  have HC := Aside0.mk hr
  have HCc := Aside0.mk hc
  have HB := Aside0.mk (Below.refl w.heap.size w)
  clear hr hc
  go_enter Try.func13, Try.ntmps13
  go_wp2_with (first | ((with_reducible refine gate_dst (N := 1) rfl ?_); refine box_event ?hg (N := 1) ?hd (cs := #[.int .i64 a, .int .i64 b, .int .i64 c, .slice A l.length cp]) (t := 67) ?hr ?_; (case hd => rfl); (case hg => rfl); (case hr => first | (go_simp; done) | (go_simp; rfl)); intro g1 hg w1 hbox hb; revert hbox hb hg))
  intro hg1 hb1 hB1
  have BK1 := Aside0.mk hb1
  have HB1 := Aside0.mk (below_step HB.out hB1)
  clear hg1 hb1 hB1 HB
  have HB := HB1
  clear HB1
  have ug1_0 : w1.cell? ⟨g1, 0, none⟩ = some (.int .i64 a) := (blk_cell BK1.out 0).trans rfl
  have ug1_1 : w1.cell? ⟨g1, 1, none⟩ = some (.int .i64 b) := (blk_cell BK1.out 1).trans rfl
  have ug1_2 : w1.cell? ⟨g1, 2, none⟩ = some (.int .i64 c) := (blk_cell BK1.out 2).trans rfl
  have ug1_3 : w1.cell? ⟨g1, 3, none⟩ = some (.slice A l.length cp) := (blk_cell BK1.out 3).trans rfl
  go_wp2_with fail
  refine (laws_szCache.calls k a b c A cp l 1048576 s _ (Kd.C_below HC.out HB.out) HCc.out hsz).mono ?_
  rintro e w2 ⟨rfl, hBa⟩
  dsimp only
  clear ug1_0 ug1_1 ug1_2 ug1_3
  have hold := hBa.block
  have BK1_ := Aside0.mk ((hold g1 (blk_lt BK1.out)).trans BK1.out)
  have HB_ := Aside0.mk (below_step HB.out hBa)
  clear HB BK1
  have BK1 := BK1_
  clear BK1_
  have HB := HB_
  clear HB_
  clear hold hBa
  have ug1_0 : w2.cell? ⟨g1, 0, none⟩ = some (.int .i64 a) := (blk_cell BK1.out 0).trans rfl
  have ug1_1 : w2.cell? ⟨g1, 1, none⟩ = some (.int .i64 b) := (blk_cell BK1.out 1).trans rfl
  have ug1_2 : w2.cell? ⟨g1, 2, none⟩ = some (.int .i64 c) := (blk_cell BK1.out 2).trans rfl
  have ug1_3 : w2.cell? ⟨g1, 3, none⟩ = some (.slice A l.length cp) := (blk_cell BK1.out 3).trans rfl
  go_wp2_with fail
  refine (laws_toCache.calls k a b c A cp l a b c L _ (Kd.C_below HC.out HB.out) HCc.out hto).mono ?_
  rintro e w3 ⟨vt, rfl, hSt, hBa⟩
  dsimp only
  clear ug1_0 ug1_1 ug1_2 ug1_3
  obtain ⟨At, ct, rfl⟩ := Kd.S_slice hSt
  have ST := Aside0.mk hSt
  clear hSt
  have hold := hBa.block
  have BK1_ := Aside0.mk ((hold g1 (blk_lt BK1.out)).trans BK1.out)
  have HB_ := Aside0.mk (below_step HB.out hBa)
  clear HB BK1
  have BK1 := BK1_
  clear BK1_
  have HB := HB_
  clear HB_
  clear hold hBa
  go_wp2_with fail
  refine (spec_CacheLines.calls k a b c At ct L r _ (Kd.S_reads' ST.out).2.2 (Kd.S_reads' ST.out).2.1 hsp).mono ?_
  rintro e w4 ⟨vn, rfl, hR, hBa⟩
  dsimp only
  obtain ⟨Aw, cw, rfl⟩ := Kd.R_slice hR
  have R30 := Aside0.mk (Kd.R_lower (Kd.R_mono (ok' := fun k_ => w3.heap.size ≤ k_ ∧ k_ < w4.heap.size) (Kd.R_bound hR) (fun k_ hk => ⟨hk.2.1, hk.2.2.1⟩)) HB.out.size)
  clear hR ST
  have O1 := Aside0.mk (show g1 < w4.heap.size from Nat.lt_of_lt_of_le (blk_lt BK1.out) hBa.size)
  have hold := hBa.block
  have BK1_ := Aside0.mk ((hold g1 (blk_lt BK1.out)).trans BK1.out)
  have HB_ := Aside0.mk (below_step HB.out hBa)
  clear HB BK1
  have BK1 := BK1_
  clear BK1_
  have HB := HB_
  clear HB_
  clear hold hBa
  have R3 := R30
  clear R30
  have ug1_0 : w4.cell? ⟨g1, 0, none⟩ = some (.int .i64 a) := (blk_cell BK1.out 0).trans rfl
  have ug1_1 : w4.cell? ⟨g1, 1, none⟩ = some (.int .i64 b) := (blk_cell BK1.out 1).trans rfl
  have ug1_2 : w4.cell? ⟨g1, 2, none⟩ = some (.int .i64 c) := (blk_cell BK1.out 2).trans rfl
  have ug1_3 : w4.cell? ⟨g1, 3, none⟩ = some (.slice A l.length cp) := (blk_cell BK1.out 3).trans rfl
  go_wp2_with fail
  refine (laws_toCache.calls k a b c A cp l a b c L _ (Kd.C_below HC.out HB.out) HCc.out hto).mono ?_
  rintro e w5 ⟨vt, rfl, hS, hBa⟩
  dsimp only
  clear ug1_0 ug1_1 ug1_2 ug1_3
  obtain ⟨Ax, cx, rfl⟩ := Kd.S_slice hS
  have S50 := Aside0.mk (Kd.S_lower (Kd.S_mono (ok' := fun k_ => w4.heap.size ≤ k_ ∧ k_ < w5.heap.size) (Kd.S_bound hS) (fun k_ hk => ⟨hk.2.1, hk.2.2.1⟩)) HB.out.size)
  have O6 := Aside0.mk hBa.size
  clear hS
  have hold := hBa.block
  have BK1_ := Aside0.mk ((hold g1 (blk_lt BK1.out)).trans BK1.out)
  have R3_ := Aside0.mk (Kd.R_step R3.out (fun k_ _ hlt => hold k_ hlt))
  have HB_ := Aside0.mk (below_step HB.out hBa)
  clear HB R3 BK1
  have BK1 := BK1_
  clear BK1_
  have R3 := R3_
  clear R3_
  have HB := HB_
  clear HB_
  clear hold hBa
  have S5 := S50
  clear S50
  have HW5 := Aside0.mk HB.out.size
  go_wp2_with (first | ((with_reducible refine gate_dst (N := 5) rfl ?_); refine box_event ?hg (N := 5) ?hd (cs := #[.int .i64 0, .int .i64 0, .int .i64 0, .slice none 0 0]) (t := 42) ?hr ?_; (case hd => rfl); (case hg => rfl); (case hr => first | (go_simp; done) | (go_simp; rfl)); intro g5 hg w6 hbox hb; revert hbox hb hg))
  intro hgN hbN hBa
  have BKn := Aside0.mk hbN
  have O5 := Aside0.mk (show w5.heap.size ≤ g5 by rw [hgN]; exact Nat.le_refl _)
  clear hgN hbN
  have hold := hBa.block
  have BK1_ := Aside0.mk ((hold g1 (blk_lt BK1.out)).trans BK1.out)
  have S5_ := Aside0.mk (Kd.S_step S5.out (fun k_ _ hlt => hold k_ hlt))
  have R3_ := Aside0.mk (Kd.R_step R3.out (fun k_ _ hlt => hold k_ hlt))
  have HB_ := Aside0.mk (below_step HB.out hBa)
  clear HB R3 S5 BK1
  have BK1 := BK1_
  clear BK1_
  have S5 := S5_
  clear S5_
  have R3 := R3_
  clear R3_
  have HB := HB_
  clear HB_
  clear hold hBa
  have z0 : w6.cell? ⟨g5, 0, none⟩ = some (.int .i64 0) := (blk_cell BKn.out 0).trans rfl
  have zf0 := blk_frozen BKn.out 0
  have z1 : w6.cell? ⟨g5, 1, none⟩ = some (.int .i64 0) := (blk_cell BKn.out 1).trans rfl
  have zf1 := blk_frozen BKn.out 1
  have z2 : w6.cell? ⟨g5, 2, none⟩ = some (.int .i64 0) := (blk_cell BKn.out 2).trans rfl
  have zf2 := blk_frozen BKn.out 2
  have z3 : w6.cell? ⟨g5, 3, none⟩ = some (.slice none 0 0) := (blk_cell BKn.out 3).trans rfl
  have zf3 := blk_frozen BKn.out 3
  refine store_event (t := 42) (p := 5) (v := ?vo5) (w1 := (World.setCell (World.setCell (World.setCell (World.setCell w6 ⟨g5, 0, none⟩ (.int .i64 a)) ⟨g5, 1, none⟩ (.int .i64 b)) ⟨g5, 2, none⟩ (.int .i64 c)) ⟨g5, 3, none⟩ (.slice Ax L.length cx))) ?hg ?ho ?hn ?hr ?_
  case ho => rfl
  case hg => rfl
  case hn => rfl
  case hr => first | (go_simp; done) | (go_simp; rfl)
  intro w7 hw_
  clear z0 zf0 z1 zf1 z2 zf2 z3 zf3
  have hKB : KeepBut w6 w7 g5 none := by rw [hw_]; exact (((KeepBut.refl _ _ _).set_ 0 _).set_ 1 _).set_ 2 _ |>.set_ 3 _
  have BK50 := Aside0.mk (show w7.heap[g5]? = some (.cells #[.int .i64 a, .int .i64 b, .int .i64 c, .slice Ax L.length cx] 42 (0, 0)) by rw [hw_]; exact blk_put (cs := #[.int .i64 a, .int .i64 b, .int .i64 c, .slice none 0 0]) (blk_put (cs := #[.int .i64 a, .int .i64 b, .int .i64 0, .slice none 0 0]) (blk_put (cs := #[.int .i64 a, .int .i64 0, .int .i64 0, .slice none 0 0]) (blk_put (cs := #[.int .i64 0, .int .i64 0, .int .i64 0, .slice none 0 0]) BKn.out 0 _ rfl) 1 _ rfl) 2 _ rfl) 3 _ rfl)
  have hO5 := O5.out
  have hO6 := O6.out
  have hO1 := O1.out
  have hq : ∀ k_, k_ < w6.heap.size → k_ ≠ g5 → w7.heap[k_]? = w6.heap[k_]? := fun k_ hk hne => hKB.2 k_ hk hne (by simp)
  have BK1_ := Aside0.mk ((hq g1 (blk_lt BK1.out) (by omega)).trans BK1.out)
  have R3_ := Aside0.mk (Kd.R_step R3.out (fun k_ hk hlt => hq k_ hlt (by have := hk.2; omega)))
  have S5_ := Aside0.mk (Kd.S_step S5.out (fun k_ hk hlt => hq k_ hlt (by have := hk.2; omega)))
  have hge : w.heap.size ≤ g5 := Nat.le_trans HW5.out hO5
  have HB_ := Aside0.mk (show Below w.heap.size w w7 by rw [hw_]; exact below_set (below_set (below_set (below_set (HB.out) hge) hge) hge) hge)
  clear hq hKB hw_ hge hO5 hO6 hO1 BK1 R3 S5 HB BKn
  have BK1 := BK1_
  clear BK1_
  have R3 := R3_
  clear R3_
  have S5 := S5_
  clear S5_
  have HB := HB_
  clear HB_
  have BK5 := BK50
  clear BK50
  clear HW5
  have O7 := Aside0.mk (show g5 < w7.heap.size from blk_lt BK5.out)
  have O8 := Aside0.mk (show w4.heap.size ≤ w7.heap.size from by have h1 := O5.out; have h2 := O6.out; have h3 := O7.out; omega)
  have ug5_0 : w7.cell? ⟨g5, 0, none⟩ = some (.int .i64 a) := (blk_cell BK5.out 0).trans rfl
  have ug5_1 : w7.cell? ⟨g5, 1, none⟩ = some (.int .i64 b) := (blk_cell BK5.out 1).trans rfl
  have ug5_2 : w7.cell? ⟨g5, 2, none⟩ = some (.int .i64 c) := (blk_cell BK5.out 2).trans rfl
  have ug5_3 : w7.cell? ⟨g5, 3, none⟩ = some (.slice Ax L.length cx) := (blk_cell BK5.out 3).trans rfl
  go_wp2_with fail
  refine (impl_CacheLines.calls k a b c Ax cx L r _ (Kd.S_reads' S5.out).2.2 (Kd.S_reads' S5.out).2.1 him).mono ?_
  rintro e w8 ⟨vn, rfl, hR, hBa⟩
  dsimp only
  clear ug5_0 ug5_1 ug5_2 ug5_3
  obtain ⟨Ag, cg, rfl⟩ := Kd.R_slice hR
  have R60 := Aside0.mk (Kd.R_lower (Kd.R_mono (ok' := fun k_ => w7.heap.size ≤ k_ ∧ k_ < w8.heap.size) (Kd.R_bound hR) (fun k_ hk => ⟨hk.2.1, hk.2.2.1⟩)) HB.out.size)
  clear hR
  have hold := hBa.block
  have BK1_ := Aside0.mk ((hold g1 (blk_lt BK1.out)).trans BK1.out)
  have BK5_ := Aside0.mk ((hold g5 (blk_lt BK5.out)).trans BK5.out)
  have S5_ := Aside0.mk (Kd.S_step S5.out (fun k_ _ hlt => hold k_ hlt))
  have R3_ := Aside0.mk (Kd.R_step R3.out (fun k_ _ hlt => hold k_ hlt))
  have HB_ := Aside0.mk (below_step HB.out hBa)
  clear HB R3 S5 BK5 BK1
  have BK1 := BK1_
  clear BK1_
  have BK5 := BK5_
  clear BK5_
  have S5 := S5_
  clear S5_
  have R3 := R3_
  clear R3_
  have HB := HB_
  clear HB_
  clear hold hBa
  have R6 := R60
  clear R60
  go_wp2_with fail
  refine (laws_eqIntS.calls k Ag cg r Aw cw r true _ (Kd.R_reads' R6.out).2.2 (Kd.R_reads' R6.out).2.1 (Kd.R_reads' R3.out).2.2 (Kd.R_reads' R3.out).2.1 heq).mono ?_
  rintro e w9 ⟨rfl, hd⟩
  dsimp only
  have hBa := hd.below
  clear hd
  have hold := hBa.block
  have BK1_ := Aside0.mk ((hold g1 (blk_lt BK1.out)).trans BK1.out)
  have BK5_ := Aside0.mk ((hold g5 (blk_lt BK5.out)).trans BK5.out)
  have S5_ := Aside0.mk (Kd.S_step S5.out (fun k_ _ hlt => hold k_ hlt))
  have R3_ := Aside0.mk (Kd.R_step R3.out (fun k_ _ hlt => hold k_ hlt))
  have R6_ := Aside0.mk (Kd.R_step R6.out (fun k_ _ hlt => hold k_ hlt))
  have HB_ := Aside0.mk (below_step HB.out hBa)
  clear HB R6 R3 S5 BK5 BK1
  have BK1 := BK1_
  clear BK1_
  have BK5 := BK5_
  clear BK5_
  have S5 := S5_
  clear S5_
  have R3 := R3_
  clear R3_
  have R6 := R6_
  clear R6_
  have HB := HB_
  clear HB_
  clear hold hBa
  go_wp2
  have BK1_ := Aside0.mk (blk_drew BK1.out)
  have BK5_ := Aside0.mk (blk_drew BK5.out)
  have S5_ := Aside0.mk (Kd.S_drew S5.out)
  have R3_ := Aside0.mk (Kd.R_drew R3.out)
  have R6_ := Aside0.mk (Kd.R_drew R6.out)
  have HB_ := Aside0.mk (below_drew1 HB.out)
  clear HB R6 R3 S5 BK5 BK1
  have BK1 := BK1_
  clear BK1_
  have BK5 := BK5_
  clear BK5_
  have S5 := S5_
  clear S5_
  have R3 := R3_
  clear R3_
  have R6 := R6_
  clear R6_
  have HB := HB_
  clear HB_
  refine start_ (n := 5) (S := fun w' => w'.cell? ⟨g5, 0, none⟩ = some (.int .i64 a) ∧ w'.cell? ⟨g5, 1, none⟩ = some (.int .i64 b) ∧ w'.cell? ⟨g5, 2, none⟩ = some (.int .i64 c) ∧ w'.cell? ⟨g5, 3, none⟩ = some (.slice Ax L.length cx) ∧ w'.cell? ⟨g1, 0, none⟩ = some (.int .i64 a) ∧ w'.cell? ⟨g1, 1, none⟩ = some (.int .i64 b) ∧ w'.cell? ⟨g1, 2, none⟩ = some (.int .i64 c) ∧ w'.cell? ⟨g1, 3, none⟩ = some (.slice A l.length cp)) (ds := []) #[false, false, false, false, false] (by kernel_rfl) rfl rfl ⟨(blk_cell BK5.out 0).trans rfl, (blk_cell BK5.out 1).trans rfl, (blk_cell BK5.out 2).trans rfl, (blk_cell BK5.out 3).trans rfl, (blk_cell BK1.out 0).trans rfl, (blk_cell BK1.out 1).trans rfl, (blk_cell BK1.out 2).trans rfl, (blk_cell BK1.out 3).trans rfl⟩ (fun hHeld => ?_)
  generalize w9.drew = w10 at BK1 BK5 S5 R3 R6 HB hHeld ⊢
  refine take_ (i := 0) (N := some 27) (v := ?_) (a' := ?_) #[true, false, false, false, false] rfl rfl (by kernel_rfl) (fun _ _ _ h => h) (Or.inl ⟨by rfl, ?_⟩) hHeld ?_ ?_
  rotate_left
  · rintro w' ⟨s0, s1, s2, s3, s4, s5, s6, s7⟩
    go_simp
    with_reducible rfl
  rotate_left
  · simp only [Act.put, List.setIfInBounds_toArray, List.set_cons_zero, List.set_cons_succ, i64_w, i32_w]
    rfl
  refine take_ (i := 1) (N := some 28) (v := ?_) (a' := ?_) #[true, true, false, false, false] rfl rfl (by kernel_rfl) (fun _ _ _ h => h) (Or.inl ⟨by rfl, ?_⟩) hHeld ?_ ?_
  rotate_left
  · rintro w' ⟨s0, s1, s2, s3, s4, s5, s6, s7⟩
    go_simp
    with_reducible rfl
  rotate_left
  · simp only [Act.put, List.setIfInBounds_toArray, List.set_cons_zero, List.set_cons_succ, i64_w, i32_w]
    rfl
  refine one_ (i := 2) (N := some 29) #[true, true, true, false, false] rfl rfl (by kernel_rfl) (by decide) (fun K hK => ?_)
  refine goes_ Try.func44 (by kernel_rfl) rfl #[.agg #[.int .i64 a, .int .i64 b, .int .i64 c, .slice A l.length cp]] (by rfl) rfl rfl (by (try simp only [List.map_toArray, List.map_cons, List.map_nil]); first | done | rfl) ?_
  refine (laws_toCache.calls k a b c A cp l a b c L _ (Kd.C_below HC.out HB.out) HCc.out hto).mono ?_
  rintro e w11 ⟨vt, rfl, hSt, hBa⟩
  obtain ⟨At, ct, rfl⟩ := Kd.S_slice hSt
  have hSt := Aside0.mk hSt
  refine ⟨_, rfl, ?_⟩
  have hold := hBa.block
  have BK1_ := Aside0.mk ((hold g1 (blk_lt BK1.out)).trans BK1.out)
  have BK5_ := Aside0.mk ((hold g5 (blk_lt BK5.out)).trans BK5.out)
  have S5_ := Aside0.mk (Kd.S_step S5.out (fun k_ _ hlt => hold k_ hlt))
  have R3_ := Aside0.mk (Kd.R_step R3.out (fun k_ _ hlt => hold k_ hlt))
  have R6_ := Aside0.mk (Kd.R_step R6.out (fun k_ _ hlt => hold k_ hlt))
  have HB_ := Aside0.mk (below_step HB.out hBa)
  clear HB R6 R3 S5 BK5 BK1
  have BK1 := BK1_
  clear BK1_
  have BK5 := BK5_
  clear BK5_
  have S5 := S5_
  clear S5_
  have R3 := R3_
  clear R3_
  have R6 := R6_
  clear R6_
  have HB := HB_
  clear HB_
  clear hold hBa
  refine hK.out _ _ ⟨(blk_cell BK5.out 0).trans rfl, (blk_cell BK5.out 1).trans rfl, (blk_cell BK5.out 2).trans rfl, (blk_cell BK5.out 3).trans rfl, (blk_cell BK1.out 0).trans rfl, (blk_cell BK1.out 1).trans rfl, (blk_cell BK1.out 2).trans rfl, (blk_cell BK1.out 3).trans rfl⟩ (fun hHeld => ?_)
  clear hK K
  refine norm_ (a' := ?_) ?_ ?_
  rotate_left
  · show Act.put _ (some 29) _ = _
    simp only [Act.put, List.setIfInBounds_toArray, List.set_cons_zero, List.set_cons_succ, i64_w, i32_w]
    rfl
  have ST := Aside0.mk (Kd.S_mono (ok' := fun _ => True) hSt.out (fun _ _ => trivial))
  clear hSt
  refine one_ (i := 3) (N := some 30) #[true, true, true, true, false] rfl rfl (by kernel_rfl) (by decide) (fun K hK => ?_)
  refine goes_ Try.func25 (by kernel_rfl) rfl #[.agg #[.int .i64 a, .int .i64 b, .int .i64 c, .slice Ax L.length cx], .agg #[.int .i64 a, .int .i64 b, .int .i64 c, .slice At L.length ct]] (by rfl) rfl rfl (by (try simp only [List.map_toArray, List.map_cons, List.map_nil]); first | done | rfl) ?_
  refine (laws_eqCache.calls k a b c Ax cx L a b c At ct L true _ (Kd.S_reads' S5.out).2.2 (Kd.S_reads' S5.out).2.1 (Kd.S_reads' ST.out).2.2 (Kd.S_reads' ST.out).2.1 heqx).mono ?_
  rintro e w12 ⟨rfl, hBa⟩
  refine ⟨_, rfl, ?_⟩
  have hold := hBa.block
  have BK1_ := Aside0.mk ((hold g1 (blk_lt BK1.out)).trans BK1.out)
  have BK5_ := Aside0.mk ((hold g5 (blk_lt BK5.out)).trans BK5.out)
  have S5_ := Aside0.mk (Kd.S_step S5.out (fun k_ _ hlt => hold k_ hlt))
  have R3_ := Aside0.mk (Kd.R_step R3.out (fun k_ _ hlt => hold k_ hlt))
  have R6_ := Aside0.mk (Kd.R_step R6.out (fun k_ _ hlt => hold k_ hlt))
  have HB_ := Aside0.mk (below_step HB.out hBa)
  clear HB R6 R3 S5 BK5 BK1
  have BK1 := BK1_
  clear BK1_
  have BK5 := BK5_
  clear BK5_
  have S5 := S5_
  clear S5_
  have R3 := R3_
  clear R3_
  have R6 := R6_
  clear R6_
  have HB := HB_
  clear HB_
  clear hold hBa
  refine hK.out _ _ ⟨(blk_cell BK5.out 0).trans rfl, (blk_cell BK5.out 1).trans rfl, (blk_cell BK5.out 2).trans rfl, (blk_cell BK5.out 3).trans rfl, (blk_cell BK1.out 0).trans rfl, (blk_cell BK1.out 1).trans rfl, (blk_cell BK1.out 2).trans rfl, (blk_cell BK1.out 3).trans rfl⟩ (fun hHeld => ?_)
  clear hK K
  refine norm_ (a' := ?_) ?_ ?_
  rotate_left
  · show Act.put _ (some 30) _ = _
    simp only [Act.put, List.setIfInBounds_toArray, List.set_cons_zero, List.set_cons_succ, i64_w, i32_w]
    rfl
  refine pure_ (i := 4) (N := some 31) (v := ?_) (a' := ?_) #[true, true, true, true, true] rfl rfl (by kernel_rfl) (fun _ _ _ h => h) (Or.inl ⟨by rfl, ?_⟩) ?_ ?_
  rotate_left
  · intro w'
    go_simp
    with_reducible rfl
  rotate_left
  · simp only [Act.put, List.setIfInBounds_toArray, List.set_cons_zero, List.set_cons_succ, i64_w, i32_w]
    rfl
  refine done_ (by kernel_rfl) ?_
  clear ST hHeld
  have ug5_0 : w12.cell? ⟨g5, 0, none⟩ = some (.int .i64 a) := (blk_cell BK5.out 0).trans rfl
  have ug5_1 : w12.cell? ⟨g5, 1, none⟩ = some (.int .i64 b) := (blk_cell BK5.out 1).trans rfl
  have ug5_2 : w12.cell? ⟨g5, 2, none⟩ = some (.int .i64 c) := (blk_cell BK5.out 2).trans rfl
  have ug5_3 : w12.cell? ⟨g5, 3, none⟩ = some (.slice Ax L.length cx) := (blk_cell BK5.out 3).trans rfl
  go_wp2_with fail
  refine (laws_markCache.calls k (fun k_ => w4.heap.size ≤ k_ ∧ k_ < w5.heap.size) a b c _ L 1 mx Lx w _ HB.out S5.out hmx).mono ?_
  rintro e w13 ⟨rfl, hS, hB, hK⟩
  dsimp only
  clear ug5_0 ug5_1 ug5_2 ug5_3
  have hq := hK.2
  have hO1 := O1.out
  have hO5 := O5.out
  have hO7 := O7.out
  have hO8 := O8.out
  have BK1_ := Aside0.mk ((hq g1 (blk_lt BK1.out) (fun h => by have h1 := h.1; omega)).trans BK1.out)
  have R3_ := Aside0.mk (Kd.R_step R3.out (fun k_ hk hlt => hq k_ hlt (fun h => by have h1 := h.1; have h2 := hk.2; omega)))
  have R6_ := Aside0.mk (Kd.R_step R6.out (fun k_ hk hlt => hq k_ hlt (fun h => by have h1 := h.2; have h2 := hk.1; omega)))
  have HB_ := Aside0.mk hB
  clear hS hq hK hB hO1 hO5 hO7 hO8 BK1 R3 R6 HB BK5 S5
  have BK1 := BK1_
  clear BK1_
  have R3 := R3_
  clear R3_
  have R6 := R6_
  clear R6_
  have HB := HB_
  clear HB_
  go_wp2_with fail
  refine (laws_eqIntS.calls k Ag cg r Aw cw r true _ (Kd.R_reads' R6.out).2.2 (Kd.R_reads' R6.out).2.1 (Kd.R_reads' R3.out).2.2 (Kd.R_reads' R3.out).2.1 heq).mono ?_
  rintro e w14 ⟨rfl, hd⟩
  dsimp only
  have hBa := hd.below
  clear hd
  have hold := hBa.block
  have BK1_ := Aside0.mk ((hold g1 (blk_lt BK1.out)).trans BK1.out)
  have R3_ := Aside0.mk (Kd.R_step R3.out (fun k_ _ hlt => hold k_ hlt))
  have R6_ := Aside0.mk (Kd.R_step R6.out (fun k_ _ hlt => hold k_ hlt))
  have HB_ := Aside0.mk (below_step HB.out hBa)
  clear HB R6 R3 BK1
  have BK1 := BK1_
  clear BK1_
  have R3 := R3_
  clear R3_
  have R6 := R6_
  clear R6_
  have HB := HB_
  clear HB_
  clear hold hBa
  go_wp2_with fail
  refine (laws_markIntS.calls k (fun k_ => w7.heap.size ≤ k_ ∧ k_ < w8.heap.size) _ r 1 m r' w _ HB.out R6.out hmk).mono ?_
  rintro e w15 ⟨rfl, hR, hB, hK⟩
  dsimp only
  have hq := hK.2
  have hO1 := O1.out
  have hO8 := O8.out
  have BK1_ := Aside0.mk ((hq g1 (blk_lt BK1.out) (fun h => by have h1 := h.1; omega)).trans BK1.out)
  have R3_ := Aside0.mk (Kd.R_step R3.out (fun k_ hk hlt => hq k_ hlt (fun h => by have h1 := h.1; have h2 := hk.2; omega)))
  have R6_ := Aside0.mk hR
  have HB_ := Aside0.mk hB
  clear hR hq hK hB hO1 hO8 BK1 R3 R6 HB
  have BK1 := BK1_
  clear BK1_
  have R3 := R3_
  clear R3_
  have R6 := R6_
  clear R6_
  have HB := HB_
  clear HB_
  have GL := Aside0.mk (Kd.R_reads' R6.out).1
  have GC := Aside0.mk (Kd.R_reads' R6.out).2.1
  go_wp2_with fail
  rw [(show r.length = r'.length from GL.out)]
  refine (laws_heldIntS.calls k Ag cg r' 1 m _ (Kd.R_reads' R6.out).2.2 (by rw [← (show r.length = r'.length from GL.out)]; exact GC.out) hhd).mono ?_
  rintro e w16 ⟨rfl, hd⟩
  dsimp only
  rw [← (show r.length = r'.length from GL.out)]
  have hBa := hd.below
  clear hd
  have hold := hBa.block
  have BK1_ := Aside0.mk ((hold g1 (blk_lt BK1.out)).trans BK1.out)
  have R3_ := Aside0.mk (Kd.R_step R3.out (fun k_ _ hlt => hold k_ hlt))
  have R6_ := Aside0.mk (Kd.R_step R6.out (fun k_ _ hlt => hold k_ hlt))
  have HB_ := Aside0.mk (below_step HB.out hBa)
  clear HB R6 R3 BK1
  have BK1 := BK1_
  clear BK1_
  have R3 := R3_
  clear R3_
  have R6 := R6_
  clear R6_
  have HB := HB_
  clear HB_
  clear hold hBa
  have ug1_0 : w16.cell? ⟨g1, 0, none⟩ = some (.int .i64 a) := (blk_cell BK1.out 0).trans rfl
  have ug1_1 : w16.cell? ⟨g1, 1, none⟩ = some (.int .i64 b) := (blk_cell BK1.out 1).trans rfl
  have ug1_2 : w16.cell? ⟨g1, 2, none⟩ = some (.int .i64 c) := (blk_cell BK1.out 2).trans rfl
  have ug1_3 : w16.cell? ⟨g1, 3, none⟩ = some (.slice A l.length cp) := (blk_cell BK1.out 3).trans rfl
  go_wp2_with fail
  refine (laws_toCache.calls k a b c A cp l a b c L _ (Kd.C_below HC.out HB.out) HCc.out hto).mono ?_
  rintro e w17 ⟨vt, rfl, hSt, hBa⟩
  dsimp only
  clear ug1_0 ug1_1 ug1_2 ug1_3
  obtain ⟨At, ct, rfl⟩ := Kd.S_slice hSt
  have ST := Aside0.mk hSt
  clear hSt
  have hold := hBa.block
  have BK1_ := Aside0.mk ((hold g1 (blk_lt BK1.out)).trans BK1.out)
  have R3_ := Aside0.mk (Kd.R_step R3.out (fun k_ _ hlt => hold k_ hlt))
  have R6_ := Aside0.mk (Kd.R_step R6.out (fun k_ _ hlt => hold k_ hlt))
  have HB_ := Aside0.mk (below_step HB.out hBa)
  clear HB R6 R3 BK1
  have BK1 := BK1_
  clear BK1_
  have R3 := R3_
  clear R3_
  have R6 := R6_
  clear R6_
  have HB := HB_
  clear HB_
  clear hold hBa
  go_wp2_with fail
  refine (impl_CacheLines.calls k a b c At ct L r _ (Kd.S_reads' ST.out).2.2 (Kd.S_reads' ST.out).2.1 him).mono ?_
  rintro e w18 ⟨vn, rfl, hR, hBa⟩
  dsimp only
  obtain ⟨Ah, ch, rfl⟩ := Kd.R_slice hR
  have R90 := Aside0.mk (Kd.R_lower (Kd.R_mono (ok' := fun k_ => w17.heap.size ≤ k_ ∧ k_ < w18.heap.size) (Kd.R_bound hR) (fun k_ hk => ⟨hk.2.1, hk.2.2.1⟩)) HB.out.size)
  clear hR ST
  have hold := hBa.block
  have BK1_ := Aside0.mk ((hold g1 (blk_lt BK1.out)).trans BK1.out)
  have R3_ := Aside0.mk (Kd.R_step R3.out (fun k_ _ hlt => hold k_ hlt))
  have R6_ := Aside0.mk (Kd.R_step R6.out (fun k_ _ hlt => hold k_ hlt))
  have HB_ := Aside0.mk (below_step HB.out hBa)
  clear HB R6 R3 BK1
  have BK1 := BK1_
  clear BK1_
  have R3 := R3_
  clear R3_
  have R6 := R6_
  clear R6_
  have HB := HB_
  clear HB_
  clear hold hBa
  have R9 := R90
  clear R90
  go_wp2_with fail
  refine (laws_eqIntS.calls k Ah ch r Aw cw r true _ (Kd.R_reads' R9.out).2.2 (Kd.R_reads' R9.out).2.1 (Kd.R_reads' R3.out).2.2 (Kd.R_reads' R3.out).2.1 heq).mono ?_
  rintro e w19 ⟨rfl, hd⟩
  dsimp only
  have hBa := hd.below
  clear hd
  have hold := hBa.block
  have BK1_ := Aside0.mk ((hold g1 (blk_lt BK1.out)).trans BK1.out)
  have R3_ := Aside0.mk (Kd.R_step R3.out (fun k_ _ hlt => hold k_ hlt))
  have R6_ := Aside0.mk (Kd.R_step R6.out (fun k_ _ hlt => hold k_ hlt))
  have R9_ := Aside0.mk (Kd.R_step R9.out (fun k_ _ hlt => hold k_ hlt))
  have HB_ := Aside0.mk (below_step HB.out hBa)
  clear HB R9 R6 R3 BK1
  have BK1 := BK1_
  clear BK1_
  have R3 := R3_
  clear R3_
  have R6 := R6_
  clear R6_
  have R9 := R9_
  clear R9_
  have HB := HB_
  clear HB_
  clear hold hBa
  go_wp2_with fail
  rw [(show r.length = r'.length from GL.out)]
  refine (laws_heldIntS.calls k Ag cg r' 1 m _ (Kd.R_reads' R6.out).2.2 (by rw [← (show r.length = r'.length from GL.out)]; exact GC.out) hhd).mono ?_
  rintro e w20 ⟨rfl, hd⟩
  dsimp only
  rw [← (show r.length = r'.length from GL.out)]
  have hBa := hd.below
  clear hd
  have hold := hBa.block
  have BK1_ := Aside0.mk ((hold g1 (blk_lt BK1.out)).trans BK1.out)
  have R3_ := Aside0.mk (Kd.R_step R3.out (fun k_ _ hlt => hold k_ hlt))
  have R6_ := Aside0.mk (Kd.R_step R6.out (fun k_ _ hlt => hold k_ hlt))
  have R9_ := Aside0.mk (Kd.R_step R9.out (fun k_ _ hlt => hold k_ hlt))
  have HB_ := Aside0.mk (below_step HB.out hBa)
  clear HB R9 R6 R3 BK1
  have BK1 := BK1_
  clear BK1_
  have R3 := R3_
  clear R3_
  have R6 := R6_
  clear R6_
  have R9 := R9_
  clear R9_
  have HB := HB_
  clear HB_
  clear hold hBa
  go_wp2
  try go_ret
  exact ⟨by first | rfl | (simp; done), HB.out⟩

/-- What the walk asks of the functions that the law calls. -/
def Hyp (k : Nat) (a b c : Int) (l : List (List (S133))) (q : Bool) : Prop := q = true ∧ ∃ s : Int, laws_szCache.f k a b c l 1048576 = some s ∧ (s < 0 ∨ ∃ (m mx : Int) (r r' : List Int) (L Lx : List (List (S103))), laws_toCache.f k a b c l = some (a, b, c, L) ∧
  spec_CacheLines.f k a b c L = some r ∧ impl_CacheLines.f k a b c L = some r ∧ laws_eqIntS.f k r r = some true ∧ laws_eqCache.f k a b c L a b c L = some true ∧
  laws_markWaySS.f k L 1 = some (mx, Lx) ∧ ¬ mx < 0 ∧ laws_markIntS.f k r 1 = some (m, r') ∧ laws_heldIntS.f k r' 1 = some m ∧ ¬ m < 0)
set_option maxHeartbeats 8000000 in
set_option maxRecDepth 100000 in
theorem laws_FnExactCacheLines.walk0 (k : Nat) (a b c : Int) (A : Option Addr) (cp : Nat) (l : List (List (S133))) (s : Int) (w : World)
    (hr : Kd.C (Kd.slice 133 k133) w A l.length l) (hc : l.length ≤ cp) (hsz : laws_szCache.f k a b c l 1048576 = some s) (hs : s < 0) :
    Calls Try.prog 13 #[.agg #[.int .i64 a, .int .i64 b, .int .i64 c, .slice A l.length cp]] w fun e w' => e = .returned (.bool true) ∧ Below w.heap.size w w' := by
  have hu67 := Try.underlying67
  have hs0 : decide (s < 0) = true := decide_eq_true hs
  have HC := Aside0.mk hr
  have HCc := Aside0.mk hc
  have HB := Aside0.mk (Below.refl w.heap.size w)
  clear hr hc
  go_enter Try.func13, Try.ntmps13
  go_wp2_with (first | ((with_reducible refine gate_dst (N := 1) rfl ?_); refine box_event ?hg (N := 1) ?hd (cs := #[.int .i64 a, .int .i64 b, .int .i64 c, .slice A l.length cp]) (t := 67) ?hr ?_; (case hd => rfl); (case hg => rfl); (case hr => first | (go_simp; done) | (go_simp; rfl)); intro g1 hg w1 hbox hb; revert hbox hb hg))
  intro hg1 hb1 hB1
  have BK1 := Aside0.mk hb1
  have HB1 := Aside0.mk (below_step HB.out hB1)
  clear hg1 hb1 hB1 HB
  have HB := HB1
  clear HB1
  have ug1_0 : w1.cell? ⟨g1, 0, none⟩ = some (.int .i64 a) := (blk_cell BK1.out 0).trans rfl
  have ug1_1 : w1.cell? ⟨g1, 1, none⟩ = some (.int .i64 b) := (blk_cell BK1.out 1).trans rfl
  have ug1_2 : w1.cell? ⟨g1, 2, none⟩ = some (.int .i64 c) := (blk_cell BK1.out 2).trans rfl
  have ug1_3 : w1.cell? ⟨g1, 3, none⟩ = some (.slice A l.length cp) := (blk_cell BK1.out 3).trans rfl
  go_wp2_with fail
  refine (laws_szCache.calls k a b c A cp l 1048576 s _ (Kd.C_below HC.out HB.out) HCc.out hsz).mono ?_
  rintro e w2 ⟨rfl, hBa⟩
  dsimp only
  clear ug1_0 ug1_1 ug1_2 ug1_3
  have hold := hBa.block
  have BK1_ := Aside0.mk ((hold g1 (blk_lt BK1.out)).trans BK1.out)
  have HB_ := Aside0.mk (below_step HB.out hBa)
  clear HB BK1
  have BK1 := BK1_
  clear BK1_
  have HB := HB_
  clear HB_
  clear hold hBa
  go_wp2
  try go_ret
  exact ⟨by first | rfl | (simp; done), HB.out⟩
theorem laws_FnExactCacheLines.calls (k : Nat) (a b c : Int) (A : Option Addr) (cp : Nat) (l : List (List (S133))) (q : Bool) (w : World) (hr : Kd.C (Kd.slice 133 k133) w A l.length l) (hc : l.length ≤ cp) (h : Hyp k a b c l q) :
    Calls Try.prog 13 #[.agg #[.int .i64 a, .int .i64 b, .int .i64 c, .slice A l.length cp]] w fun e w' => e = .returned (.bool q) ∧ Below w.heap.size w w' := by
  obtain ⟨rfl, s, h1, h2⟩ := h
  by_cases hs : s < 0
  · exact laws_FnExactCacheLines.walk0 k a b c A cp l s w hr hc h1 hs
  · obtain ⟨m, mx, r, r', L, Lx, q1, q2, q3, q4, q5, q6, q7, q8, q9, q10⟩ := h2.resolve_left hs
    exact laws_FnExactCacheLines.walk1 k a b c A cp l s m mx r r' L Lx w hr hc h1 hs q1 q2 q3 q4 q5 q6 q7 q8 q9 q10

end Go.Proofs.Ytboginbepgopeaa.PFnExactCacheLines

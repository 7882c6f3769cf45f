/- laws.markWaySS (function 75) and laws.markCache (function 26): what writes the rows of a row of rows, walked by hand over the print of the law FnExactCacheLines. -/
import Derived.Test.YtboginbepgopeaaPFnExactCacheLinesx
namespace Go.Proofs.Ytboginbepgopeaa.PFnExactCacheLines
open Go.RowKit Go.Proofs.YtboginbepgopeaaW.PrintWords Go.Proofs.YtboginbepgopeaaW.PrintLast Go.Proofs.YtboginbepgopeaaW.PrintMore
attribute [local go_sem] max2_int min2_int max_two min_two max_three min_three max_four min_four
set_option linter.unusedVariables false
set_option linter.unusedSimpArgs false

def laws_markWaySS.l0 : Nat → List (List (S103)) → Int → Int → Option (Int × (List (List (S103))))
  | 0, _, _, _ => none
  | k + 1, x0, x1, x5 => if x5 < (x0.length : Int) then (if 0 ≤ x5 then ((laws_markWayS.f k (rd_L3 x0 x5) x1).bind fun t => (laws_markWaySS.l0 k (x0.set x5.toNat t.2) t.1 (wrap64 (x5 + 1)))) else (none)) else (some (x1, x0))
def laws_markWaySS.f (k : Nat) (l0 : List (List (S103))) (a1 : Int) : Option (Int × (List (List (S103)))) := laws_markWaySS.l0 k l0 a1 0
set_option maxHeartbeats 8000000 in
set_option maxRecDepth 100000 in
theorem laws_markWaySS.calls (k : Nat) (P0_ : Nat → Prop) (v : Value) (l0 : List (List (S103))) (a1 : Int) (r1 : Int) (r2 : List (List (S103))) (w0 w : World) (hB : Below w0.heap.size w0 w) (ho0 : Kd.S (Kd.slice 103 k103) 88 w w0.heap.size P0_ v l0) (h : laws_markWaySS.f k l0 a1 = some (r1, r2)) :
    Calls Try.prog 75 #[v, .int .i64 a1] w fun e w' => e = .returned (.int .i64 r1) ∧ Kd.S (Kd.slice 103 k103) 88 w' w0.heap.size (fun k_ => (P0_ k_ ∨ w.heap.size ≤ k_)) v r2 ∧ Below w0.heap.size w0 w' ∧ Kept w w' (fun k_ => P0_ k_) := by
  have HO0 := Aside0.mk (show Kd.S (Kd.slice 103 k103) 88 w w0.heap.size (fun k_ => (P0_ k_ ∨ w.heap.size ≤ k_)) v l0 from Kd.S_mono ho0 (fun k_ hk => (.inl hk)))
  have HK := Aside0.mk (Kept.refl w (fun k_ => P0_ k_))
  have HB := Aside0.mk hB
  clear hB
  have H : (laws_markWaySS.l0 k l0 a1 0) = some (r1, r2) := h
  clear h
  have H' := Aside0.mk H
  clear H
  go_enter Try.func75, Try.ntmps75
  go_wp2
  go_loopg [1, 5] k (fun kq v1 v5 w' => ∃ (x0_1 : List (List (S103))) (x1_1 : Int) (x5_1 : Int), v1 = .int .i64 x1_1 ∧ v5 = .int .i64 x5_1 ∧ Aside0 (laws_markWaySS.l0 kq x0_1 x1_1 x5_1 = some (r1, r2)) ∧ Aside0 (kq ≤ k) ∧ Aside0 (Kd.S (Kd.slice 103 k103) 88 w' w0.heap.size (fun k_ => (P0_ k_ ∨ w.heap.size ≤ k_)) v x0_1) ∧ Aside0 (Kept w w' (fun k_ => P0_ k_)) ∧ Aside0 (Below w0.heap.size w0 w'))
  case atStart => exact ⟨(l0), (a1), (0), (by first | rfl | (simp; done) | (simp [*]; done)), (by first | rfl | (simp; done) | (simp [*]; done)), H', ⟨Nat.le_refl _⟩, ⟨by (with_reducible repeat (first | apply Kd.S_alloc | apply Kd.S_drewN | apply Kd.S_drew)); exact HO0.out⟩, ⟨by repeat (first | (with_reducible first | exact HK.out | apply Kept.alloc | apply Kept.drewN | apply Kept.drew) | exact HK.out)⟩, ⟨by repeat (first | (with_reducible first | exact HB.out | apply below_alloc | apply pw_below_drewN | apply below_drew1) | exact HB.out)⟩⟩
  case round =>
    clear H'
    obtain ⟨x0_1, x1_1, x5_1, rfl, rfl, HA, HK1, HO_0, HK, HB⟩ := hrel
    cases gk with
    | zero => exact absurd HA.out (by simp [laws_markWaySS.l0])
    | succ k1 =>
      have H := HA.out
      clear HA
      simp only [laws_markWaySS.l0] at H
      obtain ⟨Ao7, co7, eo7⟩ := Kd.S_slice HO_0.out
      subst eo7
      by_cases c3 : x5_1 < (x0_1.length : Int)
      · rw [if_pos c3] at H
        have c3b0 : decide (x5_1 < (x0_1.length : Int)) = true := decide_eq_true c3
        by_cases c4 : 0 ≤ x5_1
        · rw [if_pos c4] at H
          have c4b0 : decide (0 ≤ x5_1) = true := decide_eq_true c4
          obtain ⟨⟨t1, t2⟩, A1, H⟩ := Option.bind_eq_some_iff.mp H
          have A1 := Aside0.mk A1
          have H' := Aside0.mk H
          clear H
          obtain ⟨go5, co5, eo5, gb5, gl5, cl5, HG5⟩ := Kd.S_form HO_0.out (by omega)
          (first | cases eo5 | (injection eo5 with ea_ en_ ec_; (first | subst ea_ | (injection ea_ with ea_; subst ea_)); subst ec_; clear en_))
          obtain ⟨oki, ce, hcl, hM, hcc, hfr, hoki, hH⟩ := Kd.S_elem HO_0.out [] x5_1 c4 c3
          obtain ⟨ve, rfl, ge⟩ := hM
          have hx := hcc 0 _ rfl
          (try simp only [show ((Kd.slice 103 k103)).sz = 1 from rfl, Nat.mul_one, Nat.add_zero] at hx)
          have GE := Aside0.mk (show Kd.R k103 103 wr w0.heap.size oki ve (rd_L3 x0_1 x5_1) from ge)
          have HH := Aside0.mk hH
          have HOK := Aside0.mk hoki
          clear hcl hcc hfr hoki hH ge
          replace c3 := eq_true c3
          replace c4 := eq_true c4
          go_wp2_with fail
          refine (laws_markWayS.calls k1 oki ve _ x1_1 t1 t2 w0 _ HB.out GE.out A1.out).mono ?_
          rintro e w11 ⟨rfl, hR, hB2, hK2⟩
          have hS : Kd.S (Kd.slice 103 k103) 88 w11 w0.heap.size (fun k_ => (P0_ k_ ∨ w.heap.size ≤ k_)) (.slice (some ⟨go5, 0, none⟩) x0_1.length co7) (x0_1.set x5_1.toNat t2) := by
            have hw : w.heap.size ≤ wr.heap.size := HK.out.1
            have h2 := Kd.H_step (w1 := w11) (Kd.H_widen HH.out) (fun k _ hn hlt => hK2.2 k hlt (fun ho => hn (.inl ho)))
            exact Kd.H_back h2 (okp := fun k_ => oki k_ ∨ wr.heap.size ≤ k_) ⟨ve, rfl, hR⟩ (fun k hk => hk.elim .inl (fun h => .inr ⟨.inr (Nat.le_trans hw h), h⟩))
          have hK3 := HK.out.then_ hK2 (fun k hk => (HOK.out k hk).1)
          have n0_ := Aside0.mk hS
          have n1_ := Aside0.mk hK3
          have n2_ := Aside0.mk hB2
          clear hS hK3 hB2 hK2 hR HO_0 HK HB HH GE HOK
          have HO_0 := n0_
          have HK := n1_
          have HB := n2_
          clear n0_ n1_ n2_
          dsimp only
          have hlen : ((x0_1.set x5_1.toNat t2).length : Int) = (x0_1.length : Int) := by simp
          go_wp2
          go_roundg k1
          case measure => have := HK1.out; omega
          case rel => exact ⟨_, _, _, (by first | rfl | (simp; done) | (simp [*]; done)), (by first | rfl | (simp; done) | (simp [*]; done)), H', ⟨by have := HK1.out; omega⟩, ⟨by (with_reducible repeat (first | apply Kd.S_alloc | apply Kd.S_drewN | apply Kd.S_drew)); exact HO_0.out⟩, ⟨by repeat (first | (with_reducible first | exact HK.out | apply Kept.alloc | apply Kept.drewN | apply Kept.drew) | exact HK.out)⟩, ⟨by repeat (first | (with_reducible first | exact HB.out | apply below_alloc | apply pw_below_drewN | apply below_drew1) | exact HB.out)⟩⟩
        · rw [if_neg c4] at H
          exact absurd H (by simp)
      · rw [if_neg c3] at H
        have c3b0 : decide (x5_1 < (x0_1.length : Int)) = false := decide_eq_false c3
        simp only [Option.some.injEq, Prod.mk.injEq] at H
        obtain ⟨rfl, rfl⟩ := H
        go_wp2
        go_ret
        exact ⟨by first | rfl | (simp [errW_none, errW_some] <;> rfl), by (with_reducible repeat (first | apply Kd.S_alloc | apply Kd.S_drewN | apply Kd.S_drew)); exact HO_0.out, by repeat (first | (with_reducible first | exact HB.out | apply below_alloc | apply pw_below_drewN | apply below_drew1) | exact HB.out), by repeat (first | (with_reducible first | exact HK.out | apply Kept.alloc | apply Kept.drewN | apply Kept.drew) | exact HK.out)⟩

set_option maxHeartbeats 8000000 in
set_option maxRecDepth 100000 in
theorem laws_markCache.calls (k : Nat) (P0_ : Nat → Prop) (a0_0 a0_1 a0_2 : Int) (v : Value) (l0 : List (List (S103))) (a1 : Int) (r1 : Int) (r2 : List (List (S103))) (w0 w : World) (hB : Below w0.heap.size w0 w) (ho0 : Kd.S (Kd.slice 103 k103) 88 w w0.heap.size P0_ v l0) (h : laws_markWaySS.f k l0 a1 = some (r1, r2)) :
    Calls Try.prog 26 #[.agg #[.int .i64 a0_0, .int .i64 a0_1, .int .i64 a0_2, v], .int .i64 a1] w fun e w' => e = .returned (.int .i64 r1) ∧ Kd.S (Kd.slice 103 k103) 88 w' w0.heap.size (fun k_ => (P0_ k_ ∨ w.heap.size ≤ k_)) v r2 ∧ Below w0.heap.size w0 w' ∧ Kept w w' (fun k_ => P0_ k_) := by
  have hu42 := Try.underlying42
  obtain ⟨A0_3, c0_3, rfl⟩ := Kd.S_slice ho0
  have HO := Aside0.mk ho0
  have HBw := Aside0.mk hB
  have HB := Aside0.mk (Below.refl w.heap.size w)
  have HH := Aside0.mk h
  clear h hB ho0
  go_enter Try.func26, Try.ntmps26
  go_wp2_with (first | ((with_reducible refine gate_dst (N := 2) rfl ?_); refine box_event ?hg (N := 2) ?hd (cs := #[.int .i64 a0_0, .int .i64 a0_1, .int .i64 a0_2, .slice A0_3 l0.length c0_3]) (t := 42) ?hr ?_; (case hd => rfl); (case hg => rfl); (case hr => first | (go_simp; done) | (go_simp; rfl)); intro gb177 hg w5 hbox hb; have n0_ := Aside0.mk (below_step (by repeat (first | (with_reducible first | exact HB.out | apply below_alloc | apply pw_below_drewN | apply below_drew1) | exact HB.out)) hb); have n1_ := Aside0.mk (hbox); clear HB; have HB := n0_; have BK177 := n1_; clear n0_ n1_; clear hb hbox hg; have hcz6_3 : w5.cell? ⟨gb177, 3, none⟩ = some (.slice A0_3 l0.length c0_3) := (blk_cell BK177.out 3).trans rfl; have hfz6_3 := blk_frozen BK177.out 3))
  refine (laws_markWaySS.calls k P0_ _ l0 a1 r1 r2 w0 _ ?sB ?sO HH.out).mono ?_
  case sB => exact below_step HBw.out (by repeat (first | (with_reducible first | exact HB.out | apply below_alloc | apply pw_below_drewN | apply below_drew1) | exact HB.out))
  case sO => exact Kd.S_below HO.out (by repeat (first | (with_reducible first | exact HB.out | apply below_alloc | apply pw_below_drewN | apply below_drew1) | exact HB.out))
  rintro e w11 ⟨rfl, hS, hB2, hK2⟩
  have hBx := HB.out
  dsimp only
  have n0_ := Aside0.mk (Kd.S_mono (ok' := fun k_ => (P0_ k_ ∨ w.heap.size ≤ k_)) hS (fun k hk => hk.elim .inl (fun h => .inr (Nat.le_trans hBx.size h))))
  have n1_ := Aside0.mk hB2
  have n2_ := Aside0.mk ((Kept.of_below hBx (fun k_ => P0_ k_)).then_ hK2 (fun k hk => .inl hk))
  clear hS hB2 hK2 hBx HB HBw HO
  go_wp2
  try go_ret
  exact ⟨by first | rfl | (simp; done), n0_.out, n1_.out, n2_.out⟩

end Go.Proofs.Ytboginbepgopeaa.PFnExactCacheLines

/- Printed by a program out of the translation, with contracts of my own set in. -/
import Derived.Test.YtaophlekfepkgaaGreatDoorPFnExactLabelsOfx0
import Derived.Test.YtaophlekfepkgaaGreatDoorPFnExactLabelsOfx4
import Derived.Test.YtaophlekfepkgaaGreatDoorPFnExactLabelsOfx5
import Derived.Test.YtaophlekfepkgaaGreatDoorPFnExactLabelsOfx7
namespace Go.Proofs.YtaophlekfepkgaaGreatDoor.PFnExactLabelsOf
open Go.RowKit Go.Proofs.YtaophlekfepkgaaGreatDoorW.PrintWords Go.Proofs.YtaophlekfepkgaaGreatDoorW.PrintLast Go.Proofs.YtaophlekfepkgaaGreatDoorW.PrintMore
attribute [local go_sem] max2_int min2_int max_two min_two max_three min_three max_four min_four   -- for this text's walks alone
set_option linter.unusedVariables false
set_option linter.unusedSimpArgs false

/-! ### spec_l03Find: function 42 -/
def spec_l03Find.l0 : Nat → List (S67) → ByteArray → Int → Option (Int)
 | 0, _, _, _ => none
 | k + 1, x0, x1, x5 => if x5 < (x0.length : Int) then (if 0 ≤ x5 then (if ((rd_T67 x0 x5).f0).toList = x1.toList then (some ((rd_T67 x0 x5).f1)) else (spec_l03Find.l0 k x0 x1 (wrap64 (x5 + 1)))) else (none)) else (some (-1))
def spec_l03Find.f (k : Nat) (l0 : List (S67)) (a1 : ByteArray) : Option (Int) := spec_l03Find.l0 k l0 a1 0
set_option maxHeartbeats 8000000 in
set_option maxRecDepth 100000 in
theorem spec_l03Find.calls (k : Nat) (A0 : Option Addr) (c0 : Nat) (l0 : List (S67)) (a1 : ByteArray) (r : Int) (w : World) (hr0 : Kd.C k67 w A0 l0.length l0) (hc0 : l0.length ≤ c0) (h : spec_l03Find.f k l0 a1 = some r) :
 Calls Tryz.prog 42 #[.slice A0 l0.length c0, .string a1] w fun e w' => e = .returned (.int .i64 r) ∧ Drawn0 w w' := by
 have HR0 := Aside0.mk hr0
 have HC0 := Aside0.mk hc0
 clear hr0 hc0
 have H : (spec_l03Find.l0 k l0 a1 0) = some r := h
 clear h
 have H' := Aside0.mk H
 clear H
 go_enter Tryz.func42, Tryz.ntmps42
 go_wp2
 go_loopg [5] k (fun kq v5 w' => ∃ (x5_1 : Int), v5 = .int .i64 x5_1 ∧ Aside0 (spec_l03Find.l0 kq l0 a1 x5_1 = some r) ∧ Aside0 (kq ≤ k) ∧ Drawn0 w w')
 case atStart => exact ⟨(0), (by first | rfl | (simp; done) | (simp [*]; done)), H', ⟨Nat.le_refl _⟩, by repeat (first | exact Drawn0.refl _ | apply Drawn0.step)⟩
 case round =>
  clear H'
  try clear p2
  obtain ⟨x5_1, rfl, HA, HK1, ⟨m1, rfl⟩⟩ := hrel
  cases gk with
  | zero => exact absurd HA.out (by simp [spec_l03Find.l0])
  | succ k1 =>
   have H := HA.out
   clear HA
   simp only [spec_l03Find.l0] at H
   by_cases c3 : x5_1 < (l0.length : Int)
   · rw [if_pos c3] at H
     have c3b0 : decide (x5_1 < (l0.length : Int)) = true := decide_eq_true c3
     clear c3
     by_cases c4 : 0 ≤ x5_1
     · rw [if_pos c4] at H
       have c4b0 : decide (0 ≤ x5_1) = true := decide_eq_true c4
       clear c4
       by_cases c5 : ((rd_T67 l0 x5_1).f0).toList = a1.toList
       · rw [if_pos c5] at H
         have c5b0 : (((rd_T67 l0 x5_1).f0).toList == a1.toList) = true := beq_iff_eq.mpr c5
         have c5b1 : (((rd_T67 l0 x5_1).f0).toList != a1.toList) = false := bne_eq_false_iff_eq.mpr c5
         clear c5
         obtain rfl := Option.some.inj H
         have p197 : 0 ≤ (x5_1 : Int) := of_decide_eq_true (by first | (with_reducible assumption) | assumption)
         have q197 : x5_1 < (l0.length : Int) := of_decide_eq_true (by first | (with_reducible assumption) | assumption)
         obtain ⟨ad197, e197, hx197_0, hx197_1⟩ := at_T67 HR0.out x5_1 p197 q197
         cases e197
         replace p197 := eq_true p197
         replace q197 := eq_true q197
         have p198 : 0 ≤ (x5_1 : Int) := of_decide_eq_true (by first | (with_reducible assumption) | assumption)
         have q198 : x5_1 < (l0.length : Int) := of_decide_eq_true (by first | (with_reducible assumption) | assumption)
         obtain ⟨ad198, e198, hx198_0, hx198_1⟩ := at_T67 HR0.out x5_1 p198 q198
         obtain rfl : ad197 = ad198 := (by injection e198)
         replace p198 := eq_true p198
         replace q198 := eq_true q198
         go_wp2
         go_ret
         exact ⟨by first | rfl | (simp; done) | (simp [*]; done), by repeat (first | exact Drawn0.refl _ | apply Drawn0.step)⟩
       · rw [if_neg c5] at H
         have c5b0 : (((rd_T67 l0 x5_1).f0).toList == a1.toList) = false := beq_eq_false_iff_ne.mpr c5
         have c5b1 : (((rd_T67 l0 x5_1).f0).toList != a1.toList) = true := bne_iff_ne.mpr c5
         have H' := Aside0.mk H
         clear H
         have p197 : 0 ≤ (x5_1 : Int) := of_decide_eq_true (by first | (with_reducible assumption) | assumption)
         have q197 : x5_1 < (l0.length : Int) := of_decide_eq_true (by first | (with_reducible assumption) | assumption)
         obtain ⟨ad197, e197, hx197_0, hx197_1⟩ := at_T67 HR0.out x5_1 p197 q197
         cases e197
         replace p197 := eq_true p197
         replace q197 := eq_true q197
         go_wp2
         go_roundg k1
         case measure => have := HK1.out; omega
         case rel => exact ⟨(wrap64 (x5_1 + 1)), (by first | rfl | (simp; done) | (simp [*]; done)), H', ⟨by have := HK1.out; omega⟩, by repeat (first | exact Drawn0.refl _ | apply Drawn0.step)⟩
     · rw [if_neg c4] at H
       exact absurd H (by simp)
   · rw [if_neg c3] at H
     have c3b0 : decide (x5_1 < (l0.length : Int)) = false := decide_eq_false c3
     clear c3
     obtain rfl := Option.some.inj H
     go_wp2
     go_ret
     exact ⟨by first | rfl | (simp; done) | (simp [*]; done), by repeat (first | exact Drawn0.refl _ | apply Drawn0.step)⟩

/-! ### spec_l03All: function 19 -/
mutual
def spec_l03All.l0 : Nat → List Int → List (S67) → List ByteArray → Int → Int → Option (List Int × (List (S67)) × Int × Int)
 | 0, _, _, _, _, _ => none
 | k + 1, x6, x7, x8, x10, x11 => if x11 < (x8.length : Int) then (if 0 ≤ x11 then ((spec_ReadLine.f k (rdOf ByteArray.empty x8 x11)).bind fun bt200 => (if bt200.1 = 0 then (some ((([] : List Int)), x7, 2, wrap64 (x11 + 1))) else (if bt200.1 = 1 then ((spec_l03Find.f k x7 bt200.2.2.2.2.2.2.2).bind fun t212 => (spec_l03All.j1 k x6 x7 x8 x10 x11 (decide (t212 ≥ 0)) bt200.1 bt200.2.1 bt200.2.2.1 bt200.2.2.2.1 bt200.2.2.2.2.1 bt200.2.2.2.2.2.1 bt200.2.2.2.2.2.2.1 bt200.2.2.2.2.2.2.2)) else (spec_l03All.j1 k x6 x7 x8 x10 x11 false bt200.1 bt200.2.1 bt200.2.2.1 bt200.2.2.2.1 bt200.2.2.2.2.1 bt200.2.2.2.2.2.1 bt200.2.2.2.2.2.2.1 bt200.2.2.2.2.2.2.2)))) else (none)) else (spec_l03All.l1 k x6 x7 x8 0)
def spec_l03All.j1 : Nat → List Int → List (S67) → List ByteArray → Int → Int → Bool → Int → Int → Int → Int → Int → Int → Int → ByteArray → Option (List Int × (List (S67)) × Int × Int)
 | 0, _, _, _, _, _, _, _, _, _, _, _, _, _, _ => none
 | k + 1, x6, x7, x8, x10, x11, x53, x209000, x209001, x209002, x209003, x209004, x209005, x209006, x209007 => if x53 = true then (some ((([] : List Int)), x7, 3, wrap64 (x11 + 1))) else (if x209000 = 1 then (if x7.length < 5864062014805 then (spec_l03All.l0 k x6 (x7 ++ [(⟨x209007, x10⟩ : S67)]) x8 x10 (wrap64 (x11 + 1))) else (none)) else (if x10 ≥ 256 then (some ((([] : List Int)), x7, 4, wrap64 (x11 + 1))) else (spec_l03All.l0 k x6 x7 x8 (wrap64 (x10 + 1)) (wrap64 (x11 + 1)))))
def spec_l03All.l1 : Nat → List Int → List (S67) → List ByteArray → Int → Option (List Int × (List (S67)) × Int × Int)
 | 0, _, _, _, _ => none
 | k + 1, x6, x7, x8, x13 => if x13 < (x8.length : Int) then (if 0 ≤ x13 then ((spec_ReadLine.f k (rdOf ByteArray.empty x8 x13)).bind fun bt223 => (if bt223.1 = 2 then (if x6.length < 35184372088832 then (spec_l03All.l1 k (x6 ++ [bt223.2.2.2.2.2.2.1]) x7 x8 (wrap64 (x13 + 1))) else (none)) else (if bt223.1 = 3 then ((spec_Encode.f bt223.2.1 bt223.2.2.1 bt223.2.2.2.1 bt223.2.2.2.2.1 bt223.2.2.2.2.2.1).bind fun bt235 => (if x6.length < 35184372088832 then (spec_l03All.l1 k (x6 ++ [bt235.1]) x7 x8 (wrap64 (x13 + 1))) else (none))) else (if bt223.1 = 4 then ((spec_l03Find.f k x7 bt223.2.2.2.2.2.2.2).bind fun t240 => (if t240 < 0 then (some ((([] : List Int)), x7, 5, wrap64 (x13 + 1))) else ((spec_Encode.f bt223.2.1 bt223.2.2.1 bt223.2.2.2.1 bt223.2.2.2.2.1 (wrap64 ((wrap64 (t240 - (x6.length : Int))) - 1))).bind fun bt245 => (if bt245.2 = true then (if x6.length < 35184372088832 then (spec_l03All.l1 k (x6 ++ [bt245.1]) x7 x8 (wrap64 (x13 + 1))) else (none)) else (some ((([] : List Int)), x7, 6, wrap64 (x13 + 1))))))) else (spec_l03All.l1 k x6 x7 x8 (wrap64 (x13 + 1))))))) else (none)) else (some (x6, x7, 0, 0))
end
def spec_l03All.f (k : Nat) (a0 : ByteArray) : Option (List Int × (List (S67)) × Int × Int) := (some (([] : List (S67)) : List (S67))).bind fun y189 => ((spec_l01Lines.f k a0).bind fun bt192 => (if bt192.2 = true then (spec_l03All.l0 k (([] : List Int)) y189 bt192.1 0 0) else (some ((([] : List Int)), y189, 1, 0))))
/-- What stays through the loops: the words, the labels, the lines. -/
structure spec_l03All.St (w : World) (xs : List ByteArray) (ws : List Int) (lb : List S67) (v6 v7 v8 : Value) (W : World) : Prop where
 words : Kd.R (Kd.int .u32) 44 W w.heap.size (fun _ => True) v6 ws
 labs : Kd.R k67 67 W w.heap.size (fun _ => True) v7 lb
 lines : Kd.R Kd.string 9 W w.heap.size (fun _ => True) v8 xs
 below : Below w.heap.size w W
section
variable {w W W' : World} {xs : List ByteArray} {ws : List Int} {lb : List S67} {v6 v7 v8 : Value}
theorem spec_l03All.St.mono (h : spec_l03All.St w xs ws lb v6 v7 v8 W) (hb : Below W.heap.size W W') : spec_l03All.St w xs ws lb v6 v7 v8 W' :=
 ⟨Kd.R_below h.words hb, Kd.R_below h.labs hb, Kd.R_below h.lines hb, below_step h.below hb⟩
theorem spec_l03All.St.drewN (h : spec_l03All.St w xs ws lb v6 v7 v8 W) (n : Nat) : spec_l03All.St w xs ws lb v6 v7 v8 (W.drewN n) := ⟨Kd.R_drewN h.words n, Kd.R_drewN h.labs n, Kd.R_drewN h.lines n, pw_below_drewN h.below n⟩
theorem spec_l03All.St.drew (h : spec_l03All.St w xs ws lb v6 v7 v8 W) : spec_l03All.St w xs ws lb v6 v7 v8 W.drew := ⟨Kd.R_drew h.words, Kd.R_drew h.labs, Kd.R_drew h.lines, below_drew1 h.below⟩
theorem spec_l03All.St.alloc (h : spec_l03All.St w xs ws lb v6 v7 v8 W) (o : Obj) : spec_l03All.St w xs ws lb v6 v7 v8 (W.alloc o) := h.mono (below_alloc (Below.refl _ _) o)
/-- A type that no row here has. -/
def spec_l03All.Far (tb : Nat) : Prop := (∀ q, q ∈ 44 :: (Kd.int .u32).E → q ≠ tb) ∧ (∀ q, q ∈ 67 :: k67.E → q ≠ tb) ∧ (∀ q, q ∈ 9 :: Kd.string.E → q ≠ tb)
theorem spec_l03All.far_asm : spec_l03All.Far 64 := ⟨by decide, by decide, by decide⟩
theorem spec_l03All.far_instr : spec_l03All.Far 48 := ⟨by decide, by decide, by decide⟩
theorem spec_l03All.St.set (h : spec_l03All.St w xs ws lb v6 v7 v8 W) {gb tb : Nat} {cs : Array Value} (hb : W.heap[gb]? = some (.cells cs tb (0, 0))) (hge : w.heap.size ≤ gb) (hf : spec_l03All.Far tb) (j : Nat) (u : Value) : spec_l03All.St w xs ws lb v6 v7 v8 (W.setCell ⟨gb, j, none⟩ u) :=
 ⟨Kd.R_set h.words hb hf.1 j u, Kd.R_set h.labs hb hf.2.1 j u, Kd.R_set h.lines hb hf.2.2 j u, below_set h.below hge⟩
theorem spec_l03All.St.box (h : spec_l03All.St w xs ws lb v6 v7 v8 W) {gb tb : Nat} {c0 c1 c2 c3 c4 c5 c6 c7 : Value} (hb : W.heap[gb]? = some (.cells #[c0, c1, c2, c3, c4, c5, c6, c7] tb (0, 0))) (hge : w.heap.size ≤ gb) (hf : spec_l03All.Far tb) (u0 u1 u2 u3 u4 u5 u6 u7 : Value) :
 spec_l03All.St w xs ws lb v6 v7 v8 ((((((((W.setCell ⟨gb, 0, none⟩ u0).setCell ⟨gb, 1, none⟩ u1).setCell ⟨gb, 2, none⟩ u2).setCell ⟨gb, 3, none⟩ u3).setCell ⟨gb, 4, none⟩ u4).setCell ⟨gb, 5, none⟩ u5).setCell ⟨gb, 6, none⟩ u6).setCell ⟨gb, 7, none⟩ u7) ∧
 ((((((((W.setCell ⟨gb, 0, none⟩ u0).setCell ⟨gb, 1, none⟩ u1).setCell ⟨gb, 2, none⟩ u2).setCell ⟨gb, 3, none⟩ u3).setCell ⟨gb, 4, none⟩ u4).setCell ⟨gb, 5, none⟩ u5).setCell ⟨gb, 6, none⟩ u6).setCell ⟨gb, 7, none⟩ u7).heap[gb]? = some (.cells #[u0, u1, u2, u3, u4, u5, u6, u7] tb (0, 0)) := by
 have b0 := blk_put hb 0 u0 (cs' := #[u0, c1, c2, c3, c4, c5, c6, c7]) rfl
 have b1 := blk_put b0 1 u1 (cs' := #[u0, u1, c2, c3, c4, c5, c6, c7]) rfl
 have b2 := blk_put b1 2 u2 (cs' := #[u0, u1, u2, c3, c4, c5, c6, c7]) rfl
 have b3 := blk_put b2 3 u3 (cs' := #[u0, u1, u2, u3, c4, c5, c6, c7]) rfl
 have b4 := blk_put b3 4 u4 (cs' := #[u0, u1, u2, u3, u4, c5, c6, c7]) rfl
 have b5 := blk_put b4 5 u5 (cs' := #[u0, u1, u2, u3, u4, u5, c6, c7]) rfl
 have b6 := blk_put b5 6 u6 (cs' := #[u0, u1, u2, u3, u4, u5, u6, c7]) rfl
 have b7 := blk_put b6 7 u7 (cs' := #[u0, u1, u2, u3, u4, u5, u6, u7]) rfl
 exact ⟨(((((((h.set hb hge hf 0 u0).set b0 hge hf 1 u1).set b1 hge hf 2 u2).set b2 hge hf 3 u3).set b3 hge hf 4 u4).set b4 hge hf 5 u5).set b5 hge hf 6 u6).set b6 hge hf 7 u7, b7⟩
theorem spec_l03All.St.box5 (h : spec_l03All.St w xs ws lb v6 v7 v8 W) {gb tb : Nat} {c0 c1 c2 c3 c4 : Value} (hb : W.heap[gb]? = some (.cells #[c0, c1, c2, c3, c4] tb (0, 0))) (hge : w.heap.size ≤ gb) (hf : spec_l03All.Far tb) (u0 u1 u2 u3 u4 : Value) :
 spec_l03All.St w xs ws lb v6 v7 v8 (((((W.setCell ⟨gb, 0, none⟩ u0).setCell ⟨gb, 1, none⟩ u1).setCell ⟨gb, 2, none⟩ u2).setCell ⟨gb, 3, none⟩ u3).setCell ⟨gb, 4, none⟩ u4) ∧
 (((((W.setCell ⟨gb, 0, none⟩ u0).setCell ⟨gb, 1, none⟩ u1).setCell ⟨gb, 2, none⟩ u2).setCell ⟨gb, 3, none⟩ u3).setCell ⟨gb, 4, none⟩ u4).heap[gb]? = some (.cells #[u0, u1, u2, u3, u4] tb (0, 0)) := by
 have b0 := blk_put hb 0 u0 (cs' := #[u0, c1, c2, c3, c4]) rfl
 have b1 := blk_put b0 1 u1 (cs' := #[u0, u1, c2, c3, c4]) rfl
 have b2 := blk_put b1 2 u2 (cs' := #[u0, u1, u2, c3, c4]) rfl
 have b3 := blk_put b2 3 u3 (cs' := #[u0, u1, u2, u3, c4]) rfl
 have b4 := blk_put b3 4 u4 (cs' := #[u0, u1, u2, u3, u4]) rfl
 exact ⟨((((h.set hb hge hf 0 u0).set b0 hge hf 1 u1).set b1 hge hf 2 u2).set b2 hge hf 3 u3).set b3 hge hf 4 u4, b4⟩
theorem spec_l03All.St.word (h : spec_l03All.St w xs ws lb v6 v7 v8 W) {v1 : Value} {ws' : List Int} (ho : Kd.R (Kd.int .u32) 44 W' w.heap.size (fun _ => True) v1 ws') (hb : Below w.heap.size w W') (hg : W.grownBy W' v6.ownBlock) : spec_l03All.St w xs ws' lb v1 v7 v8 W' :=
 ⟨ho, Kd.R_over' h.labs (Kd.R_typed h.words) (by decide) hg, Kd.R_over' h.lines (Kd.R_typed h.words) (by decide) hg, hb⟩
theorem spec_l03All.St.label (h : spec_l03All.St w xs ws lb v6 v7 v8 W) {v1 : Value} {lb' : List S67} (ho : Kd.R k67 67 W' w.heap.size (fun _ => True) v1 lb') (hb : Below w.heap.size w W') (hg : W.grownBy W' v7.ownBlock) : spec_l03All.St w xs ws lb' v6 v1 v8 W' :=
 ⟨Kd.R_over' h.words (Kd.R_typed h.labs) (by decide) hg, ho, Kd.R_over' h.lines (Kd.R_typed h.labs) (by decide) hg, hb⟩
end
theorem spec_l03All.infoW : (Tryz.prog.info? 44).map (fun i => (i.zero, i.size, i.bytes)) = some (some (.int .u32 0), 1, 4) := by kernel_rfl
theorem spec_l03All.infoL : (Tryz.prog.info? 67).map (fun i => (i.zero, i.size, i.bytes)) = some (some (.agg #[.string ⟨#[]⟩, .int .i64 0]), 2, 24) := by kernel_rfl
set_option maxHeartbeats 16000000 in
set_option maxRecDepth 100000 in
theorem spec_l03All.calls (k : Nat) (a0 : ByteArray) (r1 : List Int) (r2 : List (S67)) (r3 : Int) (r4 : Int) (w : World) (h : spec_l03All.f k a0 = some (r1, r2, r3, r4)) :
 Calls Tryz.prog 19 #[.string a0] w fun e w' => ∃ v0_ v1_ : Value, e = .returned (.tuple #[v0_, v1_, .int .i64 r3, .int .i64 r4]) ∧ Kd.R (Kd.int .u32) 44 w' w.heap.size (fun _ => True) v0_ r1 ∧ Kd.R k67 67 w' w.heap.size (fun _ => True) v1_ r2 ∧ Below w.heap.size w w' := by
 unfold spec_l03All.f at h
 rw [Option.bind_some] at h
 obtain ⟨⟨xs, ok⟩, hl, H⟩ := Option.bind_eq_some_iff.1 h
 dsimp only at H
 have HL := Lib.hid (fun W => spec_l01Lines.calls k a0 xs ok W hl)
 clear h hl
 have hu33 := Tryz.underlying64
 have hu86 := Tryz.underlying67
 have hu25 := Tryz.underlying48
 have HS0 := Aside0.mk (show spec_l03All.St w [] [] [] (.slice none 0 0) (.slice none 0 0) (.slice none 0 0) w from ⟨Kd.R_nil _ _ _ _ _, Kd.R_nil _ _ _ _ _, Kd.R_nil _ _ _ _ _, Below.refl _ _⟩)
 cases ok with
 | false =>
  rw [if_neg (by simp)] at H
  simp only [Option.some.injEq, Prod.mk.injEq] at H
  obtain ⟨rfl, rfl, rfl, rfl⟩ := H
  go_enter Tryz.func19, Tryz.ntmps19
  go_wp2_with (first | ((with_reducible refine gate_dst (N := 21) rfl ?_); refine Kd.R_lit (Kd.int .u32) _ 44 ?hg (N := 21) ?hd (xs := ([] : List Int)) (inner := []) (ok := fun _ => True) (okp := fun _ => True) ?hr ?hp (fun _ hk => hk) trivial (Below.refl _ _) (Nat.le_refl _) (by simp) ?_; (case hd => rfl); (case hg => rfl); (case hr => first | (go_simp; done) | (go_simp; rfl)); (case hp => exact (Reps.none _ _)); intro v6 w2 ho_ hb_ hg_ hnew_; clear hg_ hnew_; have n0_ := Aside0.mk (spec_l03All.St.mono (by (with_reducible repeat (first | apply spec_l03All.St.alloc | apply spec_l03All.St.drewN | apply spec_l03All.St.drew)); exact HS0.out) hb_); have n1_ := Aside0.mk (Kd.R_lower ho_ (below_size (by (with_reducible repeat (first | apply below_alloc | apply pw_below_drewN | apply below_drew1)); exact HS0.out.below))); clear ho_ hb_; have HS1 := n0_; have HW1 := n1_; clear n0_ n1_) | ((with_reducible refine gate_dst (N := 22) rfl ?_); refine Kd.R_lit k67 _ 67 ?hg (N := 22) ?hd (xs := ([] : List S67)) (inner := []) (ok := fun _ => True) (okp := fun _ => True) ?hr ?hp (fun _ hk => hk) trivial (Below.refl _ _) (Nat.le_refl _) (by simp) ?_; (case hd => rfl); (case hg => rfl); (case hr => first | (go_simp; done) | (go_simp; rfl)); (case hp => exact (Reps.none _ _)); intro v7 w3 ho_ hb_ hg_ hnew_; clear hg_ hnew_; have hb0_ := hb_; have n0_ := Aside0.mk (spec_l03All.St.mono (by (with_reducible repeat (first | apply spec_l03All.St.alloc | apply spec_l03All.St.drewN | apply spec_l03All.St.drew)); exact HS1.out) hb_); have n1_ := Aside0.mk (Kd.R_lower ho_ (below_size (by (with_reducible repeat (first | apply below_alloc | apply pw_below_drewN | apply below_drew1)); exact HS1.out.below))); clear ho_ hb_; have HWB := Aside0.mk hb0_; have HS2 := n0_; have HL2 := n1_; clear n0_ n1_) | ((with_reducible refine (HL.out _).mono ?_); rintro e w4 ⟨v8, rfl, ho_, hb_⟩; have n0_ := Aside0.mk (show spec_l03All.St w xs [] [] v6 v7 v8 w4 from ⟨Kd.R_below (by (with_reducible repeat (first | apply Kd.R_alloc | apply Kd.R_drewN | apply Kd.R_drew)); exact (Kd.R_below HW1.out HWB.out)) (below_then (Below.refl _ _) (Nat.le_refl _) hb_), Kd.R_below (by (with_reducible repeat (first | apply Kd.R_alloc | apply Kd.R_drewN | apply Kd.R_drew)); exact HL2.out) hb_, Kd.R_lower ho_ (below_size (by (with_reducible repeat (first | apply below_alloc | apply pw_below_drewN | apply below_drew1)); exact HS2.out.below)), below_step (by (with_reducible repeat (first | apply below_alloc | apply pw_below_drewN | apply below_drew1)); exact HS2.out.below) hb_⟩); clear ho_ hb_; have HS := n0_; clear n0_) | ((with_reducible refine gate_dst (N := 30) rfl ?_); refine Kd.R_lit (Kd.int .u32) _ 44 ?hg (N := 30) ?hd (xs := ([] : List Int)) (inner := []) (ok := fun _ => True) (okp := fun _ => True) ?hr ?hp (fun _ hk => hk) trivial (Below.refl _ _) (Nat.le_refl _) (by simp) ?_; (case hd => rfl); (case hg => rfl); (case hr => first | (go_simp; done) | (go_simp; rfl)); (case hp => exact (Reps.none _ _)); intro vr w5 ho_ hb_ hg_ hnew_; clear hg_ hnew_; have n0_ := Aside0.mk (spec_l03All.St.mono (by (with_reducible repeat (first | apply spec_l03All.St.alloc | apply spec_l03All.St.drewN | apply spec_l03All.St.drew)); exact HS.out) hb_); have n1_ := Aside0.mk (Kd.R_lower ho_ (below_size (by (with_reducible repeat (first | apply below_alloc | apply pw_below_drewN | apply below_drew1)); exact HS.out.below))); clear ho_ hb_; have HS9 := n0_; have HR := n1_; clear n0_ n1_))
  refine bodyPost_ret (results_list (rs := [.tmp 2, .tmp 3, .tmp 4, .tmp 5]) rfl (by simp) (.tmp (.tmp (.tmp (.tmp .nil))))) rfl ?_
  exact ⟨_, _, rfl, (by (with_reducible repeat (first | apply Kd.R_alloc | apply Kd.R_drewN | apply Kd.R_drew)); exact HR.out), (by (with_reducible repeat (first | apply Kd.R_alloc | apply Kd.R_drewN | apply Kd.R_drew)); exact HS9.out.labs), (by (with_reducible repeat (first | apply below_alloc | apply pw_below_drewN | apply below_drew1)); exact HS9.out.below)⟩
 | true =>
 rw [if_pos rfl] at H
 have HGO := Aside0.mk H
 clear H
 go_enter Tryz.func19, Tryz.ntmps19
 go_wp2_with (first | ((with_reducible refine gate_dst (N := 21) rfl ?_); refine Kd.R_lit (Kd.int .u32) _ 44 ?hg (N := 21) ?hd (xs := ([] : List Int)) (inner := []) (ok := fun _ => True) (okp := fun _ => True) ?hr ?hp (fun _ hk => hk) trivial (Below.refl _ _) (Nat.le_refl _) (by simp) ?_; (case hd => rfl); (case hg => rfl); (case hr => first | (go_simp; done) | (go_simp; rfl)); (case hp => exact (Reps.none _ _)); intro v6 w2 ho_ hb_ hg_ hnew_; clear hg_ hnew_; have n0_ := Aside0.mk (spec_l03All.St.mono (by (with_reducible repeat (first | apply spec_l03All.St.alloc | apply spec_l03All.St.drewN | apply spec_l03All.St.drew)); exact HS0.out) hb_); have n1_ := Aside0.mk (Kd.R_lower ho_ (below_size (by (with_reducible repeat (first | apply below_alloc | apply pw_below_drewN | apply below_drew1)); exact HS0.out.below))); clear ho_ hb_; have HS1 := n0_; have HW1 := n1_; clear n0_ n1_) | ((with_reducible refine gate_dst (N := 22) rfl ?_); refine Kd.R_lit k67 _ 67 ?hg (N := 22) ?hd (xs := ([] : List S67)) (inner := []) (ok := fun _ => True) (okp := fun _ => True) ?hr ?hp (fun _ hk => hk) trivial (Below.refl _ _) (Nat.le_refl _) (by simp) ?_; (case hd => rfl); (case hg => rfl); (case hr => first | (go_simp; done) | (go_simp; rfl)); (case hp => exact (Reps.none _ _)); intro v7 w3 ho_ hb_ hg_ hnew_; clear hg_ hnew_; have hb0_ := hb_; have n0_ := Aside0.mk (spec_l03All.St.mono (by (with_reducible repeat (first | apply spec_l03All.St.alloc | apply spec_l03All.St.drewN | apply spec_l03All.St.drew)); exact HS1.out) hb_); have n1_ := Aside0.mk (Kd.R_lower ho_ (below_size (by (with_reducible repeat (first | apply below_alloc | apply pw_below_drewN | apply below_drew1)); exact HS1.out.below))); clear ho_ hb_; have HWB := Aside0.mk hb0_; have HS2 := n0_; have HL2 := n1_; clear n0_ n1_) | ((with_reducible refine (HL.out _).mono ?_); rintro e w4 ⟨v8, rfl, ho_, hb_⟩; have n0_ := Aside0.mk (show spec_l03All.St w xs [] [] v6 v7 v8 w4 from ⟨Kd.R_below (by (with_reducible repeat (first | apply Kd.R_alloc | apply Kd.R_drewN | apply Kd.R_drew)); exact (Kd.R_below HW1.out HWB.out)) (below_then (Below.refl _ _) (Nat.le_refl _) hb_), Kd.R_below (by (with_reducible repeat (first | apply Kd.R_alloc | apply Kd.R_drewN | apply Kd.R_drew)); exact HL2.out) hb_, Kd.R_lower ho_ (below_size (by (with_reducible repeat (first | apply below_alloc | apply pw_below_drewN | apply below_drew1)); exact HS2.out.below)), below_step (by (with_reducible repeat (first | apply below_alloc | apply pw_below_drewN | apply below_drew1)); exact HS2.out.below) hb_⟩); clear ho_ hb_; have HS := n0_; clear n0_))
 obtain ⟨A8, c8, e8⟩ := Kd.R_slice HS.out.lines
 subst e8
 clear HS0 HS1 HS2 HW1 HL2 HWB HL
 go_loopg [7, 10, 11] k (fun kq v7 v10 v11 W => ∃ (lb : List S67) (n i : Int), v10 = .int .i64 n ∧ v11 = .int .i64 i ∧ Aside0 (spec_l03All.l0 kq [] lb xs n i = some (r1, r2, r3, r4)) ∧ Aside0 (spec_l03All.St w xs [] lb v6 v7 (.slice A8 xs.length c8) W))
 case atStart => exact ⟨[], 0, 0, rfl, rfl, HGO, HS⟩
 case round =>
  clear HS HGO
  obtain ⟨lb, n, i, rfl, rfl, HA, HS⟩ := hrel
  cases gk with
  | zero => exact absurd HA.out (by simp [spec_l03All.l0])
  | succ k1 =>
  have H := HA.out
  clear HA
  simp only [spec_l03All.l0] at H
  obtain ⟨A7, c7, e7⟩ := Kd.R_slice HS.out.labs
  subst e7
  by_cases c1 : i < (xs.length : Int)
  case pos =>
   rw [if_pos c1] at H
   have c1b : decide (i < (xs.length : Int)) = true := decide_eq_true c1
   by_cases c2 : 0 ≤ i
   case neg => rw [if_neg c2] at H; exact absurd H (by simp)
   case pos =>
   rw [if_pos c2] at H
   obtain ⟨ad, e8, hx⟩ := Kd.at_string (Kd.R_reads' HS.out.lines).2.2 i c2 c1
   subst e8
   have p1 := eq_true c2
   have p2 := eq_true c1
   clear c1 c2
   obtain ⟨⟨q, op, a, b, c, imm, word, lab⟩, hr, H⟩ := Option.bind_eq_some_iff.1 H
   dsimp only at H
   have HRL := Lib.hid (fun W => spec_ReadLine.calls k1 (rdOf ByteArray.empty xs i) q op a b c imm word lab W hr)
   clear hr
   generalize rdOf ByteArray.empty xs i = x at hx HRL
   go_upto_region 12 with (first | ((with_reducible refine (HRL.out _).mono ?_); rintro e w2 ⟨rfl, hb_⟩; have n0_ := Aside0.mk (spec_l03All.St.mono (by (with_reducible repeat (first | apply spec_l03All.St.alloc | apply spec_l03All.St.drewN | apply spec_l03All.St.drew)); exact HS.out) hb_); clear hb_; have HS2 := n0_; clear n0_) | ((with_reducible refine gate_dst (N := 12) rfl ?_); refine box_event ?hg (N := 12) ?hd (cs := #[.int .i64 0, .int .i64 0, .int .i64 0, .int .i64 0, .int .i64 0, .int .i64 0, .int .u32 0, .string ⟨#[]⟩]) (t := 64) ?hr ?_; (case hd => rfl); (case hg => rfl); (case hr => first | (go_simp; done) | (go_simp; rfl)); intro gb hg_ w3 hbox hb_; have n0_ := Aside0.mk (spec_l03All.St.mono (by (with_reducible repeat (first | apply spec_l03All.St.alloc | apply spec_l03All.St.drewN | apply spec_l03All.St.drew)); exact HS2.out) hb_); have n1_ := Aside0.mk hbox; have n2_ := Aside0.mk (show w.heap.size ≤ gb by rw [hg_]; exact below_size (by (with_reducible repeat (first | apply below_alloc | apply pw_below_drewN | apply below_drew1)); exact HS2.out.below)); clear hg_ hbox hb_; have HS3 := n0_; have BKgb := n1_; have GEgb := n2_; clear n0_ n1_ n2_; have uzgb0 : w3.cell? ⟨gb, 0, none⟩ = some (.int .i64 0) := (blk_cell BKgb.out 0).trans rfl; have uzgb1 : w3.cell? ⟨gb, 1, none⟩ = some (.int .i64 0) := (blk_cell BKgb.out 1).trans rfl; have uzgb2 : w3.cell? ⟨gb, 2, none⟩ = some (.int .i64 0) := (blk_cell BKgb.out 2).trans rfl; have uzgb3 : w3.cell? ⟨gb, 3, none⟩ = some (.int .i64 0) := (blk_cell BKgb.out 3).trans rfl; have uzgb4 : w3.cell? ⟨gb, 4, none⟩ = some (.int .i64 0) := (blk_cell BKgb.out 4).trans rfl; have uzgb5 : w3.cell? ⟨gb, 5, none⟩ = some (.int .i64 0) := (blk_cell BKgb.out 5).trans rfl; have uzgb6 : w3.cell? ⟨gb, 6, none⟩ = some (.int .u32 0) := (blk_cell BKgb.out 6).trans rfl; have uzgb7 : w3.cell? ⟨gb, 7, none⟩ = some (.string ⟨#[]⟩) := (blk_cell BKgb.out 7).trans rfl; have fzgb0 := blk_frozen BKgb.out 0; have fzgb1 := blk_frozen BKgb.out 1; have fzgb2 := blk_frozen BKgb.out 2; have fzgb3 := blk_frozen BKgb.out 3; have fzgb4 := blk_frozen BKgb.out 4; have fzgb5 := blk_frozen BKgb.out 5; have fzgb6 := blk_frozen BKgb.out 6; have fzgb7 := blk_frozen BKgb.out 7))
   (try simp only [Act.put, List.setIfInBounds_toArray, List.set_cons_zero, List.set_cons_succ])
   obtain ⟨s1, s2⟩ := HS3.out.box BKgb.out GEgb.out spec_l03All.far_asm (.int .i64 q) (.int .i64 op) (.int .i64 a) (.int .i64 b) (.int .i64 c) (.int .i64 imm) (.int .u32 word) (.string lab)
   have HS4 := Aside0.mk s1
   have BK4 := Aside0.mk s2
   clear s1 s2 HS3 BKgb HRL HS HS2 hx uzgb0 fzgb0 uzgb1 fzgb1 uzgb2 fzgb2 uzgb3 fzgb3 uzgb4 fzgb4 uzgb5 fzgb5 uzgb6 fzgb6 uzgb7 fzgb7
   generalize (World.setCell (World.setCell (World.setCell (World.setCell (World.setCell (World.setCell (World.setCell (World.setCell w3 ⟨gb, 0, none⟩ (.int .i64 q)) ⟨gb, 1, none⟩ (.int .i64 op)) ⟨gb, 2, none⟩ (.int .i64 a)) ⟨gb, 3, none⟩ (.int .i64 b)) ⟨gb, 4, none⟩ (.int .i64 c)) ⟨gb, 5, none⟩ (.int .i64 imm)) ⟨gb, 6, none⟩ (.int .u32 word)) ⟨gb, 7, none⟩ (.string lab)) = wb at HS4 BK4 ⊢
   have ub0 : wb.cell? ⟨gb, 0, none⟩ = some (.int .i64 q) := (blk_cell BK4.out 0).trans rfl
   have ub1 : wb.cell? ⟨gb, 1, none⟩ = some (.int .i64 op) := (blk_cell BK4.out 1).trans rfl
   have ub2 : wb.cell? ⟨gb, 2, none⟩ = some (.int .i64 a) := (blk_cell BK4.out 2).trans rfl
   have ub3 : wb.cell? ⟨gb, 3, none⟩ = some (.int .i64 b) := (blk_cell BK4.out 3).trans rfl
   have ub4 : wb.cell? ⟨gb, 4, none⟩ = some (.int .i64 c) := (blk_cell BK4.out 4).trans rfl
   have ub5 : wb.cell? ⟨gb, 5, none⟩ = some (.int .i64 imm) := (blk_cell BK4.out 5).trans rfl
   have ub6 : wb.cell? ⟨gb, 6, none⟩ = some (.int .u32 word) := (blk_cell BK4.out 6).trans rfl
   have ub7 : wb.cell? ⟨gb, 7, none⟩ = some (.string lab) := (blk_cell BK4.out 7).trans rfl
   have fb0 := blk_frozen BK4.out 0
   have fb1 := blk_frozen BK4.out 1
   have fb2 := blk_frozen BK4.out 2
   have fb3 := blk_frozen BK4.out 3
   have fb4 := blk_frozen BK4.out 4
   have fb5 := blk_frozen BK4.out 5
   have fb6 := blk_frozen BK4.out 6
   have fb7 := blk_frozen BK4.out 7
   by_cases k0 : q = 0
   case pos =>
    rw [if_pos k0] at H
    have k0b0 : (q == 0) = true := beq_iff_eq.2 k0
    have k0b1 : (q != 0) = false := bne_eq_false_iff_eq.2 k0
    clear k0
    simp only [Option.some.injEq, Prod.mk.injEq] at H
    obtain ⟨rfl, rfl, rfl, rfl⟩ := H
    go_wp2_with (first | ((with_reducible refine gate_dst (N := 49) rfl ?_); refine Kd.R_lit (Kd.int .u32) _ 44 ?hg (N := 49) ?hd (xs := ([] : List Int)) (inner := []) (ok := fun _ => True) (okp := fun _ => True) ?hr ?hp (fun _ hk => hk) trivial (Below.refl _ _) (Nat.le_refl _) (by simp) ?_; (case hd => rfl); (case hg => rfl); (case hr => first | (go_simp; done) | (go_simp; rfl)); (case hp => exact (Reps.none _ _)); intro vr w5 ho_ hb_ hg_ hnew_; clear hg_ hnew_; have n0_ := Aside0.mk (spec_l03All.St.mono (by (with_reducible repeat (first | apply spec_l03All.St.alloc | apply spec_l03All.St.drewN | apply spec_l03All.St.drew)); exact HS4.out) hb_); have n1_ := Aside0.mk (Kd.R_lower ho_ (below_size (by (with_reducible repeat (first | apply below_alloc | apply pw_below_drewN | apply below_drew1)); exact HS4.out.below))); clear ho_ hb_; have HS9 := n0_; have HR := n1_; clear n0_ n1_))
    refine bodyPost_ret (results_list (rs := [.tmp 2, .tmp 3, .tmp 4, .tmp 5]) rfl (by simp) (.tmp (.tmp (.tmp (.tmp .nil))))) rfl ?_
    exact ⟨_, _, rfl, (by (with_reducible repeat (first | apply Kd.R_alloc | apply Kd.R_drewN | apply Kd.R_drew)); exact HR.out), (by (with_reducible repeat (first | apply Kd.R_alloc | apply Kd.R_drewN | apply Kd.R_drew)); exact HS9.out.labs), (by (with_reducible repeat (first | apply below_alloc | apply pw_below_drewN | apply below_drew1)); exact HS9.out.below)⟩
   case neg =>
   rw [if_neg k0] at H
   have k0b0 : (q == 0) = false := beq_eq_false_iff_ne.2 k0
   have k0b1 : (q != 0) = true := bne_iff_ne.2 k0
   clear k0
   by_cases k1e : q = 1
   case pos =>
    rw [if_pos k1e] at H
    have k1eb0 : (q == 1) = true := beq_iff_eq.2 k1e
    have k1eb1 : (q != 1) = false := bne_eq_false_iff_eq.2 k1e
    obtain ⟨t, ht, H⟩ := Option.bind_eq_some_iff.1 H
    have HF := Lib.hid (fun W hr hc => spec_l03Find.calls k1 (A0 := A7) (c0 := c7) lb lab t W hr hc ht)
    clear ht
    cases k1 with
    | zero => exact absurd H (by simp [spec_l03All.j1])
    | succ k2 =>
    simp only [spec_l03All.j1] at H
    by_cases ct : t ≥ 0
    case pos =>
     rw [if_pos (decide_eq_true ct)] at H
     have ctb : decide (t ≥ 0) = true := decide_eq_true ct
     have ctc : decide (0 ≤ t) = true := decide_eq_true ct
     clear ct k1e
     simp only [Option.some.injEq, Prod.mk.injEq] at H
     obtain ⟨rfl, rfl, rfl, rfl⟩ := H
     go_wp2_with (first | ((with_reducible refine (HF.out _ ?hC ?hD).mono ?_); (case hC => refine (Kd.R_reads' (e := 67) (base := w.heap.size) (ok := fun k_ => True) (n := lb.length) (c := c7) ?_).2.2; exact (by (with_reducible repeat (first | apply Kd.R_alloc | apply Kd.R_drewN | apply Kd.R_drew)); exact HS4.out.labs)); (case hD => exact (Kd.R_reads' HS4.out.labs).2.1); rintro e w5 ⟨rfl, nd_, rfl⟩) | ((with_reducible refine gate_dst (N := 64) rfl ?_); refine Kd.R_lit (Kd.int .u32) _ 44 ?hg (N := 64) ?hd (xs := ([] : List Int)) (inner := []) (ok := fun _ => True) (okp := fun _ => True) ?hr ?hp (fun _ hk => hk) trivial (Below.refl _ _) (Nat.le_refl _) (by simp) ?_; (case hd => rfl); (case hg => rfl); (case hr => first | (go_simp; done) | (go_simp; rfl)); (case hp => exact (Reps.none _ _)); intro vr w6 ho_ hb_ hg_ hnew_; clear hg_ hnew_; have n0_ := Aside0.mk (spec_l03All.St.mono (by (with_reducible repeat (first | apply spec_l03All.St.alloc | apply spec_l03All.St.drewN | apply spec_l03All.St.drew)); exact HS4.out) hb_); have n1_ := Aside0.mk (Kd.R_lower ho_ (below_size (by (with_reducible repeat (first | apply below_alloc | apply pw_below_drewN | apply below_drew1)); exact HS4.out.below))); clear ho_ hb_; have HS9 := n0_; have HR := n1_; clear n0_ n1_))
     refine bodyPost_ret (results_list (rs := [.tmp 2, .tmp 3, .tmp 4, .tmp 5]) rfl (by simp) (.tmp (.tmp (.tmp (.tmp .nil))))) rfl ?_
     exact ⟨_, _, rfl, (by (with_reducible repeat (first | apply Kd.R_alloc | apply Kd.R_drewN | apply Kd.R_drew)); exact HR.out), (by (with_reducible repeat (first | apply Kd.R_alloc | apply Kd.R_drewN | apply Kd.R_drew)); exact HS9.out.labs), (by (with_reducible repeat (first | apply below_alloc | apply pw_below_drewN | apply below_drew1)); exact HS9.out.below)⟩
    case neg =>
    rw [if_neg (show ¬ decide (t ≥ 0) = true by simpa using ct), if_pos k1e] at H
    have ctb : decide (t ≥ 0) = false := decide_eq_false ct
    have ctc : decide (0 ≤ t) = false := decide_eq_false ct
    clear ct k1e
    by_cases cl : lb.length < 5864062014805
    case neg => rw [if_neg cl] at H; exact absurd H (by simp)
    case pos =>
    rw [if_pos cl] at H
    have LML := Aside0.mk cl
    clear cl
    have HGN := Aside0.mk H
    clear H
    go_wp2_with (first | ((with_reducible refine (HF.out _ ?hC ?hD).mono ?_); (case hC => refine (Kd.R_reads' (e := 67) (base := w.heap.size) (ok := fun k_ => True) (n := lb.length) (c := c7) ?_).2.2; exact (by (with_reducible repeat (first | apply Kd.R_alloc | apply Kd.R_drewN | apply Kd.R_drew)); exact HS4.out.labs)); (case hD => exact (Kd.R_reads' HS4.out.labs).2.1); rintro e w5 ⟨rfl, nd_, rfl⟩) | ((with_reducible refine gate_builtin (b := .append) (xs := #[.tmp 72, .tmp 77]) rfl ?_); at_builtin; refine Kd.R_append k67 (w0 := w) w.heap.size rfl (.tmp 72) (.tmp 77) 32 67 _ 24 rfl Tryz.underlying32 spec_l03All.infoL rfl (by decide) (by omega) (.slice A7 lb.length c7) lb (⟨lab, n⟩ : S67) [.string lab, .int .i64 n] (fun _ => True) (fun _ => False) rfl (by first | (go_simp; done) | (go_simp; rfl)) ?aP (fun _ hk => hk.elim) ?aF ?aO ?aB ?aS ?aL ?_; (case aP => exact k67_mkM _ _ _ (⟨lab, n⟩ : S67)); (case aB => exact (by (with_reducible repeat (first | apply below_alloc | apply pw_below_drewN | apply below_drew1)); exact HS4.out.below)); (case aF => exact (fun _ _ => trivial)); (case aO => exact (by (with_reducible repeat (first | apply Kd.R_alloc | apply Kd.R_drewN | apply Kd.R_drew)); exact HS4.out.labs)); (case aS => exact (below_size (by (with_reducible repeat (first | apply below_alloc | apply pw_below_drewN | apply below_drew1)); exact HS4.out.below))); (case aL => have := LML.out; omega); intro v6b w6 ho_ hb_ hg_ hat_; have n0_ := Aside0.mk (spec_l03All.St.label (by (with_reducible repeat (first | apply spec_l03All.St.alloc | apply spec_l03All.St.drewN | apply spec_l03All.St.drew)); exact HS4.out) ho_ hb_ hg_); clear ho_ hb_ hg_ hat_; have HS6 := n0_; clear n0_))
    go_roundg k2
    case measure => omega
    case rel => exact ⟨lb ++ [⟨lab, n⟩], n, wrap64 (i + 1), rfl, rfl, HGN, ⟨(by (with_reducible repeat (first | apply spec_l03All.St.alloc | apply spec_l03All.St.drewN | apply spec_l03All.St.drew)); exact HS6.out)⟩⟩
   case neg =>
   rw [if_neg k1e] at H
   have k1eb0 : (q == 1) = false := beq_eq_false_iff_ne.2 k1e
   have k1eb1 : (q != 1) = true := bne_iff_ne.2 k1e
   cases k1 with
   | zero => exact absurd H (by simp [spec_l03All.j1])
   | succ k2 =>
   simp only [spec_l03All.j1] at H
   rw [if_neg (by simp), if_neg k1e] at H
   clear k1e
   by_cases cn : n ≥ 256
   case pos =>
    rw [if_pos cn] at H
    have cnb : decide (n ≥ 256) = true := decide_eq_true cn
    have cnc : decide (256 ≤ n) = true := decide_eq_true cn
    clear cn
    simp only [Option.some.injEq, Prod.mk.injEq] at H
    obtain ⟨rfl, rfl, rfl, rfl⟩ := H
    go_wp2_with (first | ((with_reducible refine gate_dst (N := 82) rfl ?_); refine Kd.R_lit (Kd.int .u32) _ 44 ?hg (N := 82) ?hd (xs := ([] : List Int)) (inner := []) (ok := fun _ => True) (okp := fun _ => True) ?hr ?hp (fun _ hk => hk) trivial (Below.refl _ _) (Nat.le_refl _) (by simp) ?_; (case hd => rfl); (case hg => rfl); (case hr => first | (go_simp; done) | (go_simp; rfl)); (case hp => exact (Reps.none _ _)); intro vr w6 ho_ hb_ hg_ hnew_; clear hg_ hnew_; have n0_ := Aside0.mk (spec_l03All.St.mono (by (with_reducible repeat (first | apply spec_l03All.St.alloc | apply spec_l03All.St.drewN | apply spec_l03All.St.drew)); exact HS4.out) hb_); have n1_ := Aside0.mk (Kd.R_lower ho_ (below_size (by (with_reducible repeat (first | apply below_alloc | apply pw_below_drewN | apply below_drew1)); exact HS4.out.below))); clear ho_ hb_; have HS9 := n0_; have HR := n1_; clear n0_ n1_))
    refine bodyPost_ret (results_list (rs := [.tmp 2, .tmp 3, .tmp 4, .tmp 5]) rfl (by simp) (.tmp (.tmp (.tmp (.tmp .nil))))) rfl ?_
    exact ⟨_, _, rfl, (by (with_reducible repeat (first | apply Kd.R_alloc | apply Kd.R_drewN | apply Kd.R_drew)); exact HR.out), (by (with_reducible repeat (first | apply Kd.R_alloc | apply Kd.R_drewN | apply Kd.R_drew)); exact HS9.out.labs), (by (with_reducible repeat (first | apply below_alloc | apply pw_below_drewN | apply below_drew1)); exact HS9.out.below)⟩
   case neg =>
   rw [if_neg cn] at H
   have cnb : decide (n ≥ 256) = false := decide_eq_false cn
   have cnc : decide (256 ≤ n) = false := decide_eq_false cn
   clear cn
   have HGN := Aside0.mk H
   clear H
   go_wp2
   go_roundg k2
   case measure => omega
   case rel => exact ⟨lb, wrap64 (n + 1), wrap64 (i + 1), rfl, rfl, HGN, ⟨(by (with_reducible repeat (first | apply spec_l03All.St.alloc | apply spec_l03All.St.drewN | apply spec_l03All.St.drew)); exact HS4.out)⟩⟩
  case neg =>
  rw [if_neg c1] at H
  have c1b : decide (i < (xs.length : Int)) = false := decide_eq_false c1
  clear c1
  have HGO := Aside0.mk H
  clear H
  go_wp2
  go_loopg [6, 13] k1 (fun kq v6 v13 W => ∃ (ws : List Int) (m : Int), v13 = .int .i64 m ∧ Aside0 (spec_l03All.l1 kq ws lb xs m = some (r1, r2, r3, r4)) ∧ Aside0 (spec_l03All.St w xs ws lb v6 (.slice A7 lb.length c7) (.slice A8 xs.length c8) W))
  case atStart => exact ⟨[], 0, rfl, HGO, ⟨(by (with_reducible repeat (first | apply spec_l03All.St.alloc | apply spec_l03All.St.drewN | apply spec_l03All.St.drew)); exact HS.out)⟩⟩
  case round =>
   clear HS HGO
   obtain ⟨ws, i, rfl, HA, HS⟩ := hrel
   cases gk with
   | zero => exact absurd HA.out (by simp [spec_l03All.l1])
   | succ k2 =>
   have H := HA.out
   clear HA
   simp only [spec_l03All.l1] at H
   obtain ⟨A6, c6, e6⟩ := Kd.R_slice HS.out.words
   subst e6
   by_cases c1 : i < (xs.length : Int)
   case neg =>
    rw [if_neg c1] at H
    have c1b : decide (i < (xs.length : Int)) = false := decide_eq_false c1
    clear c1
    simp only [Option.some.injEq, Prod.mk.injEq] at H
    obtain ⟨rfl, rfl, rfl, rfl⟩ := H
    go_wp2
    refine bodyPost_ret (results_list (rs := [.tmp 2, .tmp 3, .tmp 4, .tmp 5]) rfl (by simp) (.tmp (.tmp (.tmp (.tmp .nil))))) rfl ?_
    exact ⟨_, _, rfl, (by (with_reducible repeat (first | apply Kd.R_alloc | apply Kd.R_drewN | apply Kd.R_drew)); exact HS.out.words), (by (with_reducible repeat (first | apply Kd.R_alloc | apply Kd.R_drewN | apply Kd.R_drew)); exact HS.out.labs), (by (with_reducible repeat (first | apply below_alloc | apply pw_below_drewN | apply below_drew1)); exact HS.out.below)⟩
   case pos =>
   rw [if_pos c1] at H
   have c1b : decide (i < (xs.length : Int)) = true := decide_eq_true c1
   by_cases c2 : 0 ≤ i
   case neg => rw [if_neg c2] at H; exact absurd H (by simp)
   case pos =>
   rw [if_pos c2] at H
   obtain ⟨ad, e8, hx⟩ := Kd.at_string (Kd.R_reads' HS.out.lines).2.2 i c2 c1
   subst e8
   have p1 := eq_true c2
   have p2 := eq_true c1
   clear c1 c2
   obtain ⟨⟨q, op, a, b, c, imm, word, lab⟩, hr, H⟩ := Option.bind_eq_some_iff.1 H
   dsimp only at H
   have HRL := Lib.hid (fun W => spec_ReadLine.calls k2 (rdOf ByteArray.empty xs i) q op a b c imm word lab W hr)
   clear hr
   generalize rdOf ByteArray.empty xs i = x at hx HRL
   go_upto_region 24 with (first | ((with_reducible refine (HRL.out _).mono ?_); rintro e w2 ⟨rfl, hb_⟩; have n0_ := Aside0.mk (spec_l03All.St.mono (by (with_reducible repeat (first | apply spec_l03All.St.alloc | apply spec_l03All.St.drewN | apply spec_l03All.St.drew)); exact HS.out) hb_); clear hb_; have HS2 := n0_; clear n0_) | ((with_reducible refine gate_dst (N := 14) rfl ?_); refine box_event ?hg (N := 14) ?hd (cs := #[.int .i64 0, .int .i64 0, .int .i64 0, .int .i64 0, .int .i64 0, .int .i64 0, .int .u32 0, .string ⟨#[]⟩]) (t := 64) ?hr ?_; (case hd => rfl); (case hg => rfl); (case hr => first | (go_simp; done) | (go_simp; rfl)); intro gb hg_ w3 hbox hb_; have n0_ := Aside0.mk (spec_l03All.St.mono (by (with_reducible repeat (first | apply spec_l03All.St.alloc | apply spec_l03All.St.drewN | apply spec_l03All.St.drew)); exact HS2.out) hb_); have n1_ := Aside0.mk hbox; have n2_ := Aside0.mk (show w.heap.size ≤ gb by rw [hg_]; exact below_size (by (with_reducible repeat (first | apply below_alloc | apply pw_below_drewN | apply below_drew1)); exact HS2.out.below)); clear hg_ hbox hb_; have HS3 := n0_; have BKgb := n1_; have GEgb := n2_; clear n0_ n1_ n2_; have uzgb0 : w3.cell? ⟨gb, 0, none⟩ = some (.int .i64 0) := (blk_cell BKgb.out 0).trans rfl; have uzgb1 : w3.cell? ⟨gb, 1, none⟩ = some (.int .i64 0) := (blk_cell BKgb.out 1).trans rfl; have uzgb2 : w3.cell? ⟨gb, 2, none⟩ = some (.int .i64 0) := (blk_cell BKgb.out 2).trans rfl; have uzgb3 : w3.cell? ⟨gb, 3, none⟩ = some (.int .i64 0) := (blk_cell BKgb.out 3).trans rfl; have uzgb4 : w3.cell? ⟨gb, 4, none⟩ = some (.int .i64 0) := (blk_cell BKgb.out 4).trans rfl; have uzgb5 : w3.cell? ⟨gb, 5, none⟩ = some (.int .i64 0) := (blk_cell BKgb.out 5).trans rfl; have uzgb6 : w3.cell? ⟨gb, 6, none⟩ = some (.int .u32 0) := (blk_cell BKgb.out 6).trans rfl; have uzgb7 : w3.cell? ⟨gb, 7, none⟩ = some (.string ⟨#[]⟩) := (blk_cell BKgb.out 7).trans rfl; have fzgb0 := blk_frozen BKgb.out 0; have fzgb1 := blk_frozen BKgb.out 1; have fzgb2 := blk_frozen BKgb.out 2; have fzgb3 := blk_frozen BKgb.out 3; have fzgb4 := blk_frozen BKgb.out 4; have fzgb5 := blk_frozen BKgb.out 5; have fzgb6 := blk_frozen BKgb.out 6; have fzgb7 := blk_frozen BKgb.out 7))
   (try simp only [Act.put, List.setIfInBounds_toArray, List.set_cons_zero, List.set_cons_succ])
   obtain ⟨s1, s2⟩ := HS3.out.box BKgb.out GEgb.out spec_l03All.far_asm (.int .i64 q) (.int .i64 op) (.int .i64 a) (.int .i64 b) (.int .i64 c) (.int .i64 imm) (.int .u32 word) (.string lab)
   have HS4 := Aside0.mk s1
   have BK4 := Aside0.mk s2
   clear s1 s2 HS3 BKgb HRL HS HS2 hx uzgb0 fzgb0 uzgb1 fzgb1 uzgb2 fzgb2 uzgb3 fzgb3 uzgb4 fzgb4 uzgb5 fzgb5 uzgb6 fzgb6 uzgb7 fzgb7
   generalize (World.setCell (World.setCell (World.setCell (World.setCell (World.setCell (World.setCell (World.setCell (World.setCell w3 ⟨gb, 0, none⟩ (.int .i64 q)) ⟨gb, 1, none⟩ (.int .i64 op)) ⟨gb, 2, none⟩ (.int .i64 a)) ⟨gb, 3, none⟩ (.int .i64 b)) ⟨gb, 4, none⟩ (.int .i64 c)) ⟨gb, 5, none⟩ (.int .i64 imm)) ⟨gb, 6, none⟩ (.int .u32 word)) ⟨gb, 7, none⟩ (.string lab)) = wb at HS4 BK4 ⊢
   have ub0 : wb.cell? ⟨gb, 0, none⟩ = some (.int .i64 q) := (blk_cell BK4.out 0).trans rfl
   have ub1 : wb.cell? ⟨gb, 1, none⟩ = some (.int .i64 op) := (blk_cell BK4.out 1).trans rfl
   have ub2 : wb.cell? ⟨gb, 2, none⟩ = some (.int .i64 a) := (blk_cell BK4.out 2).trans rfl
   have ub3 : wb.cell? ⟨gb, 3, none⟩ = some (.int .i64 b) := (blk_cell BK4.out 3).trans rfl
   have ub4 : wb.cell? ⟨gb, 4, none⟩ = some (.int .i64 c) := (blk_cell BK4.out 4).trans rfl
   have ub5 : wb.cell? ⟨gb, 5, none⟩ = some (.int .i64 imm) := (blk_cell BK4.out 5).trans rfl
   have ub6 : wb.cell? ⟨gb, 6, none⟩ = some (.int .u32 word) := (blk_cell BK4.out 6).trans rfl
   have ub7 : wb.cell? ⟨gb, 7, none⟩ = some (.string lab) := (blk_cell BK4.out 7).trans rfl
   have fb0 := blk_frozen BK4.out 0
   have fb1 := blk_frozen BK4.out 1
   have fb2 := blk_frozen BK4.out 2
   have fb3 := blk_frozen BK4.out 3
   have fb4 := blk_frozen BK4.out 4
   have fb5 := blk_frozen BK4.out 5
   have fb6 := blk_frozen BK4.out 6
   have fb7 := blk_frozen BK4.out 7
   by_cases k2e : q = 2
   case pos =>
    rw [if_pos k2e] at H
    have k2eb0 : (q == 2) = true := beq_iff_eq.2 k2e
    have k2eb1 : (q != 2) = false := bne_eq_false_iff_eq.2 k2e
    clear k2e
    by_cases cw : ws.length < 35184372088832
    case neg => rw [if_neg cw] at H; exact absurd H (by simp)
    case pos =>
    rw [if_pos cw] at H
    have LMW := Aside0.mk cw
    clear cw
    have HGN := Aside0.mk H
    clear H
    go_wp2_with (first | ((with_reducible refine gate_builtin (b := .append) (xs := #[.tmp 101, .tmp 104]) rfl ?_); at_builtin; refine Kd.R_append (Kd.int .u32) (w0 := w) w.heap.size rfl (.tmp 101) (.tmp 104) 25 44 (.int .u32 0) 4 rfl Tryz.underlying25 spec_l03All.infoW rfl (by decide) (by omega) (.slice A6 ws.length c6) ws word [.int .u32 word] (fun _ => True) (fun _ => False) rfl (by first | (go_simp; done) | (go_simp; rfl)) ?aP (fun _ hk => hk.elim) ?aF ?aO ?aB ?aS ?aL ?_; (case aP => exact rfl); (case aB => exact (by (with_reducible repeat (first | apply below_alloc | apply pw_below_drewN | apply below_drew1)); exact HS4.out.below)); (case aF => exact (fun _ _ => trivial)); (case aO => exact (by (with_reducible repeat (first | apply Kd.R_alloc | apply Kd.R_drewN | apply Kd.R_drew)); exact HS4.out.words)); (case aS => exact (below_size (by (with_reducible repeat (first | apply below_alloc | apply pw_below_drewN | apply below_drew1)); exact HS4.out.below))); (case aL => have := LMW.out; omega); intro v6b w6 ho_ hb_ hg_ hat_; have n0_ := Aside0.mk (spec_l03All.St.word (by (with_reducible repeat (first | apply spec_l03All.St.alloc | apply spec_l03All.St.drewN | apply spec_l03All.St.drew)); exact HS4.out) ho_ hb_ hg_); clear ho_ hb_ hg_ hat_; have HS6 := n0_; clear n0_))
    go_roundg k2
    case measure => omega
    case rel => exact ⟨ws ++ [word], wrap64 (i + 1), rfl, HGN, ⟨(by (with_reducible repeat (first | apply spec_l03All.St.alloc | apply spec_l03All.St.drewN | apply spec_l03All.St.drew)); exact HS6.out)⟩⟩
   case neg =>
   rw [if_neg k2e] at H
   have k2eb0 : (q == 2) = false := beq_eq_false_iff_ne.2 k2e
   have k2eb1 : (q != 2) = true := bne_iff_ne.2 k2e
   clear k2e
   by_cases k3e : q = 3
   case pos =>
    rw [if_pos k3e] at H
    have k3eb0 : (q == 3) = true := beq_iff_eq.2 k3e
    have k3eb1 : (q != 3) = false := bne_eq_false_iff_eq.2 k3e
    clear k3e
    obtain ⟨⟨r, fine⟩, hr, H⟩ := Option.bind_eq_some_iff.1 H
    dsimp only at H
    have HE := Lib.hid (fun W => spec_Encode.calls op a b c imm r fine W hr)
    clear hr
    by_cases cw : ws.length < 35184372088832
    case neg => rw [if_neg cw] at H; exact absurd H (by simp)
    case pos =>
    rw [if_pos cw] at H
    have LMW := Aside0.mk cw
    clear cw
    have HGN := Aside0.mk H
    clear H
    go_wp2_with (first | ((with_reducible refine (HE.out _).mono ?_); rintro e w5 ⟨rfl, hb_⟩; have n0_ := Aside0.mk (spec_l03All.St.mono (by (with_reducible repeat (first | apply spec_l03All.St.alloc | apply spec_l03All.St.drewN | apply spec_l03All.St.drew)); exact HS4.out) hb_); clear hb_; have HS5 := n0_; clear n0_) | ((with_reducible refine gate_builtin (b := .append) (xs := #[.tmp 114, .tmp 116]) rfl ?_); at_builtin; refine Kd.R_append (Kd.int .u32) (w0 := w) w.heap.size rfl (.tmp 114) (.tmp 116) 25 44 (.int .u32 0) 4 rfl Tryz.underlying25 spec_l03All.infoW rfl (by decide) (by omega) (.slice A6 ws.length c6) ws r [.int .u32 r] (fun _ => True) (fun _ => False) rfl (by first | (go_simp; done) | (go_simp; rfl)) ?aP (fun _ hk => hk.elim) ?aF ?aO ?aB ?aS ?aL ?_; (case aP => exact rfl); (case aB => exact (by (with_reducible repeat (first | apply below_alloc | apply pw_below_drewN | apply below_drew1)); exact HS5.out.below)); (case aF => exact (fun _ _ => trivial)); (case aO => exact (by (with_reducible repeat (first | apply Kd.R_alloc | apply Kd.R_drewN | apply Kd.R_drew)); exact HS5.out.words)); (case aS => exact (below_size (by (with_reducible repeat (first | apply below_alloc | apply pw_below_drewN | apply below_drew1)); exact HS5.out.below))); (case aL => have := LMW.out; omega); intro v6b w6 ho_ hb_ hg_ hat_; have n0_ := Aside0.mk (spec_l03All.St.word (by (with_reducible repeat (first | apply spec_l03All.St.alloc | apply spec_l03All.St.drewN | apply spec_l03All.St.drew)); exact HS5.out) ho_ hb_ hg_); clear ho_ hb_ hg_ hat_; have HS6 := n0_; clear n0_))
    go_roundg k2
    case measure => omega
    case rel => exact ⟨ws ++ [r], wrap64 (i + 1), rfl, HGN, ⟨(by (with_reducible repeat (first | apply spec_l03All.St.alloc | apply spec_l03All.St.drewN | apply spec_l03All.St.drew)); exact HS6.out)⟩⟩
   case neg =>
   rw [if_neg k3e] at H
   have k3eb0 : (q == 3) = false := beq_eq_false_iff_ne.2 k3e
   have k3eb1 : (q != 3) = true := bne_iff_ne.2 k3e
   clear k3e
   by_cases k4e : q = 4
   case neg =>
    rw [if_neg k4e] at H
    have k4eb0 : (q == 4) = false := beq_eq_false_iff_ne.2 k4e
    have k4eb1 : (q != 4) = true := bne_iff_ne.2 k4e
    clear k4e
    have HGN := Aside0.mk H
    clear H
    go_wp2
    go_roundg k2
    case measure => omega
    case rel => exact ⟨ws, wrap64 (i + 1), rfl, HGN, ⟨(by (with_reducible repeat (first | apply spec_l03All.St.alloc | apply spec_l03All.St.drewN | apply spec_l03All.St.drew)); exact HS4.out)⟩⟩
   case pos =>
   rw [if_pos k4e] at H
   have k4eb0 : (q == 4) = true := beq_iff_eq.2 k4e
   have k4eb1 : (q != 4) = false := bne_eq_false_iff_eq.2 k4e
   clear k4e
   obtain ⟨t, ht, H⟩ := Option.bind_eq_some_iff.1 H
   have HF := Lib.hid (fun W hr hc => spec_l03Find.calls k2 (A0 := A7) (c0 := c7) lb lab t W hr hc ht)
   clear ht
   by_cases ct : t < 0
   case pos =>
    rw [if_pos ct] at H
    have ctb : decide (t < 0) = true := decide_eq_true ct
    clear ct
    simp only [Option.some.injEq, Prod.mk.injEq] at H
    obtain ⟨rfl, rfl, rfl, rfl⟩ := H
    go_wp2_with (first | ((with_reducible refine (HF.out _ ?hC ?hD).mono ?_); (case hC => refine (Kd.R_reads' (e := 67) (base := w.heap.size) (ok := fun k_ => True) (n := lb.length) (c := c7) ?_).2.2; exact (by (with_reducible repeat (first | apply Kd.R_alloc | apply Kd.R_drewN | apply Kd.R_drew)); exact HS4.out.labs)); (case hD => exact (Kd.R_reads' HS4.out.labs).2.1); rintro e w5 ⟨rfl, nd_, rfl⟩) | ((with_reducible refine gate_dst (N := 126) rfl ?_); refine Kd.R_lit (Kd.int .u32) _ 44 ?hg (N := 126) ?hd (xs := ([] : List Int)) (inner := []) (ok := fun _ => True) (okp := fun _ => True) ?hr ?hp (fun _ hk => hk) trivial (Below.refl _ _) (Nat.le_refl _) (by simp) ?_; (case hd => rfl); (case hg => rfl); (case hr => first | (go_simp; done) | (go_simp; rfl)); (case hp => exact (Reps.none _ _)); intro vr w6 ho_ hb_ hg_ hnew_; clear hg_ hnew_; have n0_ := Aside0.mk (spec_l03All.St.mono (by (with_reducible repeat (first | apply spec_l03All.St.alloc | apply spec_l03All.St.drewN | apply spec_l03All.St.drew)); exact HS4.out) hb_); have n1_ := Aside0.mk (Kd.R_lower ho_ (below_size (by (with_reducible repeat (first | apply below_alloc | apply pw_below_drewN | apply below_drew1)); exact HS4.out.below))); clear ho_ hb_; have HS9 := n0_; have HR := n1_; clear n0_ n1_))
    refine bodyPost_ret (results_list (rs := [.tmp 2, .tmp 3, .tmp 4, .tmp 5]) rfl (by simp) (.tmp (.tmp (.tmp (.tmp .nil))))) rfl ?_
    exact ⟨_, _, rfl, (by (with_reducible repeat (first | apply Kd.R_alloc | apply Kd.R_drewN | apply Kd.R_drew)); exact HR.out), (by (with_reducible repeat (first | apply Kd.R_alloc | apply Kd.R_drewN | apply Kd.R_drew)); exact HS9.out.labs), (by (with_reducible repeat (first | apply below_alloc | apply pw_below_drewN | apply below_drew1)); exact HS9.out.below)⟩
   case neg =>
   rw [if_neg ct] at H
   have ctb : decide (t < 0) = false := decide_eq_false ct
   clear ct
   obtain ⟨⟨r, fine⟩, hr, H⟩ := Option.bind_eq_some_iff.1 H
   dsimp only at H
   generalize hdl : wrap64 ((wrap64 (t - (ws.length : Int))) - 1) = dl at hr
   have HE := Lib.hid (fun W => spec_Encode.calls op a b c dl r fine W hr)
   have HDL := Aside0.mk hdl
   clear hr hdl
   go_upto_region 35 with (first | ((with_reducible refine (HF.out _ ?hC ?hD).mono ?_); (case hC => refine (Kd.R_reads' (e := 67) (base := w.heap.size) (ok := fun k_ => True) (n := lb.length) (c := c7) ?_).2.2; exact (by (with_reducible repeat (first | apply Kd.R_alloc | apply Kd.R_drewN | apply Kd.R_drew)); exact HS4.out.labs)); (case hD => exact (Kd.R_reads' HS4.out.labs).2.1); rintro e w5 ⟨rfl, nd_, rfl⟩) | ((with_reducible refine gate_dst (N := 18) rfl ?_); refine box_event ?hg (N := 18) ?hd (cs := #[.int .i64 0, .int .i64 0, .int .i64 0, .int .i64 0, .int .i64 0]) (t := 48) ?hr ?_; (case hd => rfl); (case hg => rfl); (case hr => first | (go_simp; done) | (go_simp; rfl)); intro gi hg_ w6 hbox hb_; have n0_ := Aside0.mk (spec_l03All.St.mono (by (with_reducible repeat (first | apply spec_l03All.St.alloc | apply spec_l03All.St.drewN | apply spec_l03All.St.drew)); exact HS4.out) hb_); have n1_ := Aside0.mk hbox; have n2_ := Aside0.mk (show w.heap.size ≤ gi by rw [hg_]; exact below_size (by (with_reducible repeat (first | apply below_alloc | apply pw_below_drewN | apply below_drew1)); exact HS4.out.below)); clear hg_ hbox hb_; have HS6 := n0_; have BKgi := n1_; have GEgi := n2_; clear n0_ n1_ n2_; have uzgi0 : w6.cell? ⟨gi, 0, none⟩ = some (.int .i64 0) := (blk_cell BKgi.out 0).trans rfl; have uzgi1 : w6.cell? ⟨gi, 1, none⟩ = some (.int .i64 0) := (blk_cell BKgi.out 1).trans rfl; have uzgi2 : w6.cell? ⟨gi, 2, none⟩ = some (.int .i64 0) := (blk_cell BKgi.out 2).trans rfl; have uzgi3 : w6.cell? ⟨gi, 3, none⟩ = some (.int .i64 0) := (blk_cell BKgi.out 3).trans rfl; have uzgi4 : w6.cell? ⟨gi, 4, none⟩ = some (.int .i64 0) := (blk_cell BKgi.out 4).trans rfl; have fzgi0 := blk_frozen BKgi.out 0; have fzgi1 := blk_frozen BKgi.out 1; have fzgi2 := blk_frozen BKgi.out 2; have fzgi3 := blk_frozen BKgi.out 3; have fzgi4 := blk_frozen BKgi.out 4))
   (try simp only [Act.put, List.setIfInBounds_toArray, List.set_cons_zero, List.set_cons_succ])
   obtain ⟨s1, s2⟩ := HS6.out.box5 BKgi.out GEgi.out spec_l03All.far_instr (.int .i64 op) (.int .i64 a) (.int .i64 b) (.int .i64 c) (.int .i64 imm)
   have HS7 := Aside0.mk s1
   have BK7 := Aside0.mk s2
   clear s1 s2 HS6 HS4 BKgi BK4 HF uzgi0 fzgi0 uzgi1 fzgi1 uzgi2 fzgi2 uzgi3 fzgi3 uzgi4 fzgi4 ub0 fb0 ub1 fb1 ub2 fb2 ub3 fb3 ub4 fb4 ub5 fb5 ub6 fb6 ub7 fb7
   generalize (World.setCell (World.setCell (World.setCell (World.setCell (World.setCell w6 ⟨gi, 0, none⟩ (.int .i64 op)) ⟨gi, 1, none⟩ (.int .i64 a)) ⟨gi, 2, none⟩ (.int .i64 b)) ⟨gi, 3, none⟩ (.int .i64 c)) ⟨gi, 4, none⟩ (.int .i64 imm)) = wi at HS7 BK7 ⊢
   have ui0 : wi.cell? ⟨gi, 0, none⟩ = some (.int .i64 op) := (blk_cell BK7.out 0).trans rfl
   have ui1 : wi.cell? ⟨gi, 1, none⟩ = some (.int .i64 a) := (blk_cell BK7.out 1).trans rfl
   have ui2 : wi.cell? ⟨gi, 2, none⟩ = some (.int .i64 b) := (blk_cell BK7.out 2).trans rfl
   have ui3 : wi.cell? ⟨gi, 3, none⟩ = some (.int .i64 c) := (blk_cell BK7.out 3).trans rfl
   have ui4 : wi.cell? ⟨gi, 4, none⟩ = some (.int .i64 imm) := (blk_cell BK7.out 4).trans rfl
   have fi0 := blk_frozen BK7.out 0
   have fi1 := blk_frozen BK7.out 1
   have fi2 := blk_frozen BK7.out 2
   have fi3 := blk_frozen BK7.out 3
   have fi4 := blk_frozen BK7.out 4
   have hdl := HDL.out
   go_upto_region 36 with fail
   (try simp only [Act.put, List.setIfInBounds_toArray, List.set_cons_zero, List.set_cons_succ])
   have HS8 := Aside0.mk (HS7.out.set BK7.out GEgi.out spec_l03All.far_instr 4 (.int .i64 dl))
   have BK8 := Aside0.mk (blk_put BK7.out 4 (.int .i64 dl) (cs' := #[.int .i64 op, .int .i64 a, .int .i64 b, .int .i64 c, .int .i64 dl]) rfl)
   clear hdl HDL HS7 BK7 ui0 fi0 ui1 fi1 ui2 fi2 ui3 fi3 ui4 fi4
   generalize World.setCell wi ⟨gi, 4, none⟩ (.int .i64 dl) = wj at HS8 BK8 ⊢
   have uj0 : wj.cell? ⟨gi, 0, none⟩ = some (.int .i64 op) := (blk_cell BK8.out 0).trans rfl
   have uj1 : wj.cell? ⟨gi, 1, none⟩ = some (.int .i64 a) := (blk_cell BK8.out 1).trans rfl
   have uj2 : wj.cell? ⟨gi, 2, none⟩ = some (.int .i64 b) := (blk_cell BK8.out 2).trans rfl
   have uj3 : wj.cell? ⟨gi, 3, none⟩ = some (.int .i64 c) := (blk_cell BK8.out 3).trans rfl
   have uj4 : wj.cell? ⟨gi, 4, none⟩ = some (.int .i64 dl) := (blk_cell BK8.out 4).trans rfl
   have fj0 := blk_frozen BK8.out 0
   have fj1 := blk_frozen BK8.out 1
   have fj2 := blk_frozen BK8.out 2
   have fj3 := blk_frozen BK8.out 3
   have fj4 := blk_frozen BK8.out 4
   cases fine with
   | true =>
    rw [if_pos rfl] at H
    by_cases cw : ws.length < 35184372088832
    case neg => rw [if_neg cw] at H; exact absurd H (by simp)
    case pos =>
    rw [if_pos cw] at H
    have LMW := Aside0.mk cw
    clear cw
    have HGN := Aside0.mk H
    clear H
    go_wp2_with (first | ((with_reducible refine (HE.out _).mono ?_); rintro e w7 ⟨rfl, hb_⟩; have n0_ := Aside0.mk (spec_l03All.St.mono (by (with_reducible repeat (first | apply spec_l03All.St.alloc | apply spec_l03All.St.drewN | apply spec_l03All.St.drew)); exact HS8.out) hb_); clear hb_; have HS9 := n0_; clear n0_) | ((with_reducible refine gate_builtin (b := .append) (xs := #[.tmp 149, .tmp 151]) rfl ?_); at_builtin; refine Kd.R_append (Kd.int .u32) (w0 := w) w.heap.size rfl (.tmp 149) (.tmp 151) 25 44 (.int .u32 0) 4 rfl Tryz.underlying25 spec_l03All.infoW rfl (by decide) (by omega) (.slice A6 ws.length c6) ws r [.int .u32 r] (fun _ => True) (fun _ => False) rfl (by first | (go_simp; done) | (go_simp; rfl)) ?aP (fun _ hk => hk.elim) ?aF ?aO ?aB ?aS ?aL ?_; (case aP => exact rfl); (case aB => exact (by (with_reducible repeat (first | apply below_alloc | apply pw_below_drewN | apply below_drew1)); exact HS9.out.below)); (case aF => exact (fun _ _ => trivial)); (case aO => exact (by (with_reducible repeat (first | apply Kd.R_alloc | apply Kd.R_drewN | apply Kd.R_drew)); exact HS9.out.words)); (case aS => exact (below_size (by (with_reducible repeat (first | apply below_alloc | apply pw_below_drewN | apply below_drew1)); exact HS9.out.below))); (case aL => have := LMW.out; omega); intro v6b w8 ho_ hb_ hg_ hat_; have n0_ := Aside0.mk (spec_l03All.St.word (by (with_reducible repeat (first | apply spec_l03All.St.alloc | apply spec_l03All.St.drewN | apply spec_l03All.St.drew)); exact HS9.out) ho_ hb_ hg_); clear ho_ hb_ hg_ hat_; have HS10 := n0_; clear n0_))
    go_roundg k2
    case measure => omega
    case rel => exact ⟨ws ++ [r], wrap64 (i + 1), rfl, HGN, ⟨(by (with_reducible repeat (first | apply spec_l03All.St.alloc | apply spec_l03All.St.drewN | apply spec_l03All.St.drew)); exact HS10.out)⟩⟩
   | false =>
    rw [if_neg (by simp)] at H
    simp only [Option.some.injEq, Prod.mk.injEq] at H
    obtain ⟨rfl, rfl, rfl, rfl⟩ := H
    go_wp2_with (first | ((with_reducible refine (HE.out _).mono ?_); rintro e w7 ⟨rfl, hb_⟩; have n0_ := Aside0.mk (spec_l03All.St.mono (by (with_reducible repeat (first | apply spec_l03All.St.alloc | apply spec_l03All.St.drewN | apply spec_l03All.St.drew)); exact HS8.out) hb_); clear hb_; have HS9 := n0_; clear n0_) | ((with_reducible refine gate_dst (N := 145) rfl ?_); refine Kd.R_lit (Kd.int .u32) _ 44 ?hg (N := 145) ?hd (xs := ([] : List Int)) (inner := []) (ok := fun _ => True) (okp := fun _ => True) ?hr ?hp (fun _ hk => hk) trivial (Below.refl _ _) (Nat.le_refl _) (by simp) ?_; (case hd => rfl); (case hg => rfl); (case hr => first | (go_simp; done) | (go_simp; rfl)); (case hp => exact (Reps.none _ _)); intro vr w8 ho_ hb_ hg_ hnew_; clear hg_ hnew_; have n0_ := Aside0.mk (spec_l03All.St.mono (by (with_reducible repeat (first | apply spec_l03All.St.alloc | apply spec_l03All.St.drewN | apply spec_l03All.St.drew)); exact HS9.out) hb_); have n1_ := Aside0.mk (Kd.R_lower ho_ (below_size (by (with_reducible repeat (first | apply below_alloc | apply pw_below_drewN | apply below_drew1)); exact HS9.out.below))); clear ho_ hb_; have HS10 := n0_; have HR := n1_; clear n0_ n1_))
    refine bodyPost_ret (results_list (rs := [.tmp 2, .tmp 3, .tmp 4, .tmp 5]) rfl (by simp) (.tmp (.tmp (.tmp (.tmp .nil))))) rfl ?_
    exact ⟨_, _, rfl, (by (with_reducible repeat (first | apply Kd.R_alloc | apply Kd.R_drewN | apply Kd.R_drew)); exact HR.out), (by (with_reducible repeat (first | apply Kd.R_alloc | apply Kd.R_drewN | apply Kd.R_drew)); exact HS10.out.labs), (by (with_reducible repeat (first | apply below_alloc | apply pw_below_drewN | apply below_drew1)); exact HS10.out.below)⟩

end Go.Proofs.YtaophlekfepkgaaGreatDoor.PFnExactLabelsOf

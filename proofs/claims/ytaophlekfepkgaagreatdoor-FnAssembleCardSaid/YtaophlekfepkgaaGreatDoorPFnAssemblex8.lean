/- Printed by a program out of the translation, with contracts of my own set in. -/
import Derived.Test.YtaophlekfepkgaaGreatDoorPFnAssemblex0
import Derived.Test.YtaophlekfepkgaaGreatDoorPFnAssemblex1
import Derived.Test.YtaophlekfepkgaaGreatDoorPFnAssemblex2
import Derived.Test.YtaophlekfepkgaaGreatDoorPFnAssemblex3
import Derived.Test.YtaophlekfepkgaaGreatDoorPFnAssemblex5
import Derived.Test.YtaophlekfepkgaaGreatDoorPFnAssemblex7
namespace Go.Proofs.YtaophlekfepkgaaGreatDoor.PFnAssemble
open Go.RowKit Go.Proofs.YtaophlekfepkgaaGreatDoorW.PrintWords Go.Proofs.YtaophlekfepkgaaGreatDoorW.PrintLast Go.Proofs.YtaophlekfepkgaaGreatDoorW.PrintMore
attribute [local go_sem] max2_int min2_int max_two min_two max_three min_three max_four min_four   -- for this text's walks alone
set_option linter.unusedVariables false
set_option linter.unusedSimpArgs false

/-! ### laws_sameWords: function 12 -/
def laws_sameWords.l0 : Nat → List Int → List Int → Int → Option (Bool)
 | 0, _, _, _ => none
 | k + 1, x0, x1, x5 => if x5 < (x0.length : Int) then (if 0 ≤ x5 then (if x5 < (x1.length : Int) then (if (rd x0 x5) = (rd x1 x5) then (laws_sameWords.l0 k x0 x1 (wrap64 (x5 + 1))) else (some false)) else (none)) else (none)) else (some true)
def laws_sameWords.f (k : Nat) (l0 : List Int) (l1 : List Int) : Option (Bool) := if (l0.length : Int) = (l1.length : Int) then (laws_sameWords.l0 k l0 l1 0) else (some false)
set_option maxHeartbeats 8000000 in
set_option maxRecDepth 100000 in
theorem laws_sameWords.calls (k : Nat) (A0 : Option Addr) (c0 : Nat) (l0 : List Int) (A1 : Option Addr) (c1 : Nat) (l1 : List Int) (r : Bool) (w : World) (hr0 : Kd.C (Kd.int .u32) w A0 l0.length l0) (hc0 : l0.length ≤ c0) (hr1 : Kd.C (Kd.int .u32) w A1 l1.length l1) (hc1 : l1.length ≤ c1) (h : laws_sameWords.f k l0 l1 = some r) :
 Calls Tryz.prog 12 #[.slice A0 l0.length c0, .slice A1 l1.length c1] w fun e w' => e = .returned (.bool r) ∧ Drawn0 w w' := by
 have HR0 := Aside0.mk hr0
 have HC0 := Aside0.mk hc0
 clear hr0 hc0
 have HR1 := Aside0.mk hr1
 have HC1 := Aside0.mk hc1
 clear hr1 hc1
 have H : (if (l0.length : Int) = (l1.length : Int) then (laws_sameWords.l0 k l0 l1 0) else (some false)) = some r := h
 clear h
 by_cases c3 : (l0.length : Int) = (l1.length : Int)
 · rw [if_pos c3] at H
   have c3b0 : ((l0.length : Int) == (l1.length : Int)) = true := beq_iff_eq.mpr c3
   have c3b1 : ((l0.length : Int) != (l1.length : Int)) = false := bne_eq_false_iff_eq.mpr c3
   have c3b2 : (l0.length == l1.length) = true := by first | simpa using c3 | (simp at c3 ⊢; omega)
   clear c3
   have H' := Aside0.mk H
   clear H
   go_enter Tryz.func12, Tryz.ntmps12
   go_wp2
   repeat (go_quiet (fail); try go_wp2)
   go_loopg [5] k (fun kq v5 w' => ∃ (x5_1 : Int), v5 = .int .i64 x5_1 ∧ Aside0 (laws_sameWords.l0 kq l0 l1 x5_1 = some r) ∧ Aside0 (kq ≤ k) ∧ Drawn0 w w')
   case atStart => exact ⟨(0), (by first | rfl | (simp; done) | (simp [*]; done)), H', ⟨Nat.le_refl _⟩, by repeat (first | exact Drawn0.refl _ | apply Drawn0.step)⟩
   case round =>
    clear H'
    try clear c1
    try clear p2
    try clear c3
    try clear c3b0
    try clear c3b1
    try clear c3b2
    obtain ⟨x5_1, rfl, HA, HK1, ⟨m1, rfl⟩⟩ := hrel
    cases gk with
    | zero => exact absurd HA.out (by simp [laws_sameWords.l0])
    | succ k1 =>
     have H := HA.out
     clear HA
     simp only [laws_sameWords.l0] at H
     by_cases c4 : x5_1 < (l0.length : Int)
     · rw [if_pos c4] at H
       have c4b0 : decide (x5_1 < (l0.length : Int)) = true := decide_eq_true c4
       clear c4
       by_cases c5 : 0 ≤ x5_1
       · rw [if_pos c5] at H
         have c5b0 : decide (0 ≤ x5_1) = true := decide_eq_true c5
         clear c5
         by_cases c6 : x5_1 < (l1.length : Int)
         · rw [if_pos c6] at H
           have c6b0 : decide (x5_1 < (l1.length : Int)) = true := decide_eq_true c6
           clear c6
           by_cases c7 : (rd l0 x5_1) = (rd l1 x5_1)
           · rw [if_pos c7] at H
             have c7b0 : ((rd l0 x5_1) == (rd l1 x5_1)) = true := beq_iff_eq.mpr c7
             have c7b1 : ((rd l0 x5_1) != (rd l1 x5_1)) = false := bne_eq_false_iff_eq.mpr c7
             clear c7
             have H' := Aside0.mk H
             clear H
             have p261 : 0 ≤ (x5_1 : Int) := of_decide_eq_true (by first | (with_reducible assumption) | assumption)
             have q261 : x5_1 < (l0.length : Int) := of_decide_eq_true (by first | (with_reducible assumption) | assumption)
             obtain ⟨ad261, e261, hx261_0⟩ := Kd.at_int HR0.out x5_1 p261 q261
             cases e261
             replace p261 := eq_true p261
             replace q261 := eq_true q261
             have p262 : 0 ≤ (x5_1 : Int) := of_decide_eq_true (by first | (with_reducible assumption) | assumption)
             have q262 : x5_1 < (l1.length : Int) := of_decide_eq_true (by first | (with_reducible assumption) | assumption)
             obtain ⟨ad262, e262, hx262_0⟩ := Kd.at_int HR1.out x5_1 p262 q262
             cases e262
             replace p262 := eq_true p262
             replace q262 := eq_true q262
             go_wp2
             repeat (go_quiet (fail); try go_wp2)
             go_roundg k1
             case measure => have := HK1.out; omega
             case rel => exact ⟨(wrap64 (x5_1 + 1)), (by first | rfl | (simp; done) | (simp [*]; done)), H', ⟨by have := HK1.out; omega⟩, by repeat (first | exact Drawn0.refl _ | apply Drawn0.step)⟩
           · rw [if_neg c7] at H
             have c7b0 : ((rd l0 x5_1) == (rd l1 x5_1)) = false := beq_eq_false_iff_ne.mpr c7
             have c7b1 : ((rd l0 x5_1) != (rd l1 x5_1)) = true := bne_iff_ne.mpr c7
             obtain rfl := Option.some.inj H
             have p261 : 0 ≤ (x5_1 : Int) := of_decide_eq_true (by first | (with_reducible assumption) | assumption)
             have q261 : x5_1 < (l0.length : Int) := of_decide_eq_true (by first | (with_reducible assumption) | assumption)
             obtain ⟨ad261, e261, hx261_0⟩ := Kd.at_int HR0.out x5_1 p261 q261
             cases e261
             replace p261 := eq_true p261
             replace q261 := eq_true q261
             have p262 : 0 ≤ (x5_1 : Int) := of_decide_eq_true (by first | (with_reducible assumption) | assumption)
             have q262 : x5_1 < (l1.length : Int) := of_decide_eq_true (by first | (with_reducible assumption) | assumption)
             obtain ⟨ad262, e262, hx262_0⟩ := Kd.at_int HR1.out x5_1 p262 q262
             cases e262
             replace p262 := eq_true p262
             replace q262 := eq_true q262
             go_wp2
             repeat (go_quiet (fail); try go_wp2)
             go_ret
             exact ⟨by first | rfl | (simp; done) | (simp [*]; done), by repeat (first | exact Drawn0.refl _ | apply Drawn0.step)⟩
         · rw [if_neg c6] at H
           exact absurd H (by simp)
       · rw [if_neg c5] at H
         exact absurd H (by simp)
     · rw [if_neg c4] at H
       have c4b0 : decide (x5_1 < (l0.length : Int)) = false := decide_eq_false c4
       clear c4
       obtain rfl := Option.some.inj H
       go_wp2
       repeat (go_quiet (fail); try go_wp2)
       go_ret
       exact ⟨by first | rfl | (simp; done) | (simp [*]; done), by repeat (first | exact Drawn0.refl _ | apply Drawn0.step)⟩
 · rw [if_neg c3] at H
   have c3b0 : ((l0.length : Int) == (l1.length : Int)) = false := beq_eq_false_iff_ne.mpr c3
   have c3b1 : ((l0.length : Int) != (l1.length : Int)) = true := bne_iff_ne.mpr c3
   have c3b2 : (l0.length == l1.length) = false := by first | simpa using c3 | (simp at c3 ⊢; omega)
   obtain rfl := Option.some.inj H
   go_enter Tryz.func12, Tryz.ntmps12
   go_wp2
   repeat (go_quiet (fail); try go_wp2)
   go_ret
   exact ⟨by first | rfl | (simp; done) | (simp [*]; done), by repeat (first | exact Drawn0.refl _ | apply Drawn0.step)⟩

/-! ### impl_LabelsOf: function 13 -/
instance impl_LabelsOf.inh : Inhabited S67 := ⟨z67⟩
/-- A label's two cells; how two compare. -/
def impl_LabelsOf.enc (x : S67) : List Value := [.string x.f0, .int .i64 x.f1]
def impl_LabelsOf.cf (x y : S67) : Int := Lib.compareBytes x.f0.data.toList y.f0.data.toList
def impl_LabelsOf.sorted (l : List S67) : List S67 := if l = [] then [] else (Go.Sort.pdq (ltOf impl_LabelsOf.cf) l.toArray 0 l.length (Lib.bitLen l.length) true true).toList
/-- The labels of the lines: so many words stand ahead. -/
def impl_LabelsOf.labs : List ByteArray → Nat → List S67 → Option (List S67)
 | [], _, acc => some acc
 | x :: t, n, acc => (impl_readLine.f x).bind fun r => if r.1 = 1 then impl_LabelsOf.labs t n (acc ++ [⟨r.2.2.2.2.2.2.2, (n : Int)⟩]) else impl_LabelsOf.labs t (n + 1) acc
def impl_LabelsOf.f (a0 : ByteArray) : Option (List S67) := (impl_assemble.f a0).bind fun q => if q.2.1 = 0 then ((impl_LabelsOf.labs (impl_assemble.lines a0) 0 []).bind fun l => some (impl_LabelsOf.sorted l)) else some []
theorem impl_LabelsOf.cmp_lt : ∀ a b : List UInt8, Lib.compareBytes a b < 0 ↔ a < b
 | [], [] => by simp [Lib.compareBytes]
 | [], _ :: _ => by simp [Lib.compareBytes]
 | _ :: _, [] => by simp [Lib.compareBytes]
 | x :: a, y :: b => by
  have ih := impl_LabelsOf.cmp_lt a b
  simp only [Lib.compareBytes, List.cons_lt_cons_iff]
  by_cases h1 : x < y
  · simp [h1]
  · by_cases h2 : y < x
    · simp only [h1, h2, if_true, if_false, false_or]
      constructor
      · intro h; omega
      · rintro ⟨rfl, _⟩; exact absurd h2 h1
    · have e : x = y := UInt8.le_antisymm (UInt8.not_lt.1 h2) (UInt8.not_lt.1 h1)
      subst e
      simp [ih]
theorem impl_LabelsOf.lt_is (x y : S67) : ltOf impl_LabelsOf.cf x y = decide (x.f0.data.toList < y.f0.data.toList) := by
 unfold ltOf impl_LabelsOf.cf
 rw [decide_eq_decide]
 exact impl_LabelsOf.cmp_lt _ _
theorem impl_LabelsOf.swo : Go.Sort.SWO (ltOf impl_LabelsOf.cf) where
 irrefl x := by rw [impl_LabelsOf.lt_is]; simp
 trans x y z h1 h2 := by
  rw [impl_LabelsOf.lt_is] at *
  simp only [decide_eq_true_eq] at *
  exact List.lt_trans h1 h2
 ntrans x y z h1 h2 := by
  rw [impl_LabelsOf.lt_is] at *
  simp only [decide_eq_false_iff_not, List.not_lt] at *
  exact List.le_trans h2 h1
set_option maxHeartbeats 1000000 in
theorem impl_LabelsOf.closure (x y : S67) (W : World) : Calls Tryz.prog 34 #[.agg #[.string x.f0, .int .i64 x.f1], .agg #[.string y.f0, .int .i64 y.f1]] W fun e w' => e = .returned (.int .i64 (impl_LabelsOf.cf x y)) ∧ ∃ q os', w' = Go.Sort.grow (W.drewN q) os' := by
 have hcon := fun W' => Tryz.strings_Compare x.f0 y.f0 W'
 unfold impl_LabelsOf.cf
 generalize Lib.compareBytes x.f0.data.toList y.f0.data.toList = r at hcon ⊢
 go_enter Tryz.func34, Tryz.ntmps34
 go_wp2_with (go_at_call 35; refine (hcon _).mono ?_; rintro e w' ⟨rfl, rfl⟩)
 go_ret
 exact ⟨rfl, 0, _, by rw [Go.Sort.alloc_eq_grow, Go.Sort.alloc_eq_grow, Go.Sort.grow_grow]; rfl⟩
theorem impl_LabelsOf.flat (l : List S67) (i : Nat) (h : i < l.length) : (Go.Sort.flatK impl_LabelsOf.enc 2 l.toArray)[2 * i]? = some (.string l[i].f0) ∧ (Go.Sort.flatK impl_LabelsOf.enc 2 l.toArray)[2 * i + 1]? = some (.int .i64 l[i].f1) := by
 have hs : (Go.Sort.flatK impl_LabelsOf.enc 2 l.toArray).size = l.length * 2 := by simp
 have g : ∀ c (hc : c < 2), (Go.Sort.flatK impl_LabelsOf.enc 2 l.toArray)[2 * i + c]? = (impl_LabelsOf.enc l[i])[c]? := by
  intro c hc
  have h1 := Go.Sort.get_flatK impl_LabelsOf.enc 2 l.toArray (2 * i + c) (by simp; omega)
  rw [show (2 * i + c) / 2 = i by omega, show (2 * i + c) % 2 = c by omega] at h1
  rw [getElem!_pos _ _ (by omega)] at h1
  rw [Array.getElem?_eq_getElem (by omega), h1]
  have h2 : l.toArray[i]! = l[i] := by simp [h]
  rw [h2]
  have : c < (impl_LabelsOf.enc l[i]).length := hc
  rw [List.getElem?_eq_getElem this, getElem!_pos (impl_LabelsOf.enc l[i]) c this]
 exact ⟨by have := g 0 (by omega); simpa [impl_LabelsOf.enc] using this, by have := g 1 (by omega); simpa [impl_LabelsOf.enc] using this⟩
theorem impl_LabelsOf.holds {W : World} {base b c : Nat} {l : List S67} (h : Kd.R k67 67 W base (fun _ => True) (.slice (some ⟨b, 0, none⟩) l.length c) l) : Go.Sort.HoldsK impl_LabelsOf.enc 2 W b 0 l.toArray := by
 intro j hj
 have hj : j < l.length * 2 := by simpa using hj
 have hsz : (Go.Sort.flatK impl_LabelsOf.enc 2 l.toArray).size = l.length * 2 := by simp
 obtain ⟨inner, ho⟩ := Kd.R_own h
 obtain ⟨cells, hb⟩ := own_typed ho b rfl
 refine ⟨?_, blk_frozen hb _⟩
 obtain ⟨ad, e, h0, h1⟩ := at_T67 (Kd.R_reads' h).2.2 ((j / 2 : Nat) : Int) (by omega) (by omega)
 injection e with e
 subst e
 have hi : j / 2 < l.length := by omega
 have hr : rd_T67 l ((j / 2 : Nat) : Int) = l[j / 2] := by unfold rd_T67; rw [Int.toNat_natCast]; simp [List.getD, hi]
 rw [hr, Int.toNat_natCast] at h0 h1
 obtain ⟨f0, f1⟩ := impl_LabelsOf.flat l (j / 2) hi
 have hget : some (Go.Sort.flatK impl_LabelsOf.enc 2 l.toArray)[j]! = (Go.Sort.flatK impl_LabelsOf.enc 2 l.toArray)[j]? := by rw [getElem!_pos _ _ (by omega), Array.getElem?_eq_getElem (by omega)]
 show W.cell? ⟨b, 0 + j, none⟩ = some (Go.Sort.flatK impl_LabelsOf.enc 2 l.toArray)[j]!
 rw [hget]
 have ea : (⟨b, 0, none⟩ : Addr).add (j / 2 * 2) = ⟨b, j / 2 * 2, none⟩ := add_plain _ _
 rw [ea] at h0 h1
 rcases Nat.mod_two_eq_zero_or_one j with hm | hm
 · rw [show 2 * (j / 2) = j by omega] at f0
   rw [f0, show 0 + j = j / 2 * 2 by omega]; exact h0
 · have h1 : W.cell? ⟨b, j / 2 * 2 + 1, none⟩ = some (.int .i64 l[j / 2].f1) := h1
   rw [show 2 * (j / 2) + 1 = j by omega] at f1
   rw [f1, show 0 + j = j / 2 * 2 + 1 by omega]; exact h1
theorem impl_LabelsOf.put {w0 W : World} {base b c n : Nat} {os : Array Obj} {l d : List S67} (h : Kd.R k67 67 W base (fun _ => True) (.slice (some ⟨b, 0, none⟩) l.length c) l) (hl : d.length = l.length) (HB : Below base w0 W) (hbase : base ≤ W.heap.size) :
 Kd.R k67 67 (sortWorldK impl_LabelsOf.enc 2 W b 0 n d.toArray os) base (fun _ => True) (.slice (some ⟨b, 0, none⟩) l.length c) d ∧ Below base w0 (sortWorldK impl_LabelsOf.enc 2 W b 0 n d.toArray os) := by
 obtain ⟨_, inner, ⟨hil, ho⟩, hrep⟩ := h
 rcases ho with ⟨h0, _⟩ | ⟨g, cap, cur, he, hg, hb, hn, hcap, hcs, htk⟩
 · injection h0 with h0; exact absurd h0 (by simp)
 injection he with e1 e2 e3
 injection e1 with e1
 injection e1 with e1 _ _
 subst e1
 subst e3
 have hcs : cur.size = c * 2 := hcs
 have hblt : b < W.heap.size := (Array.getElem?_eq_some_iff.1 hb).1
 have hF : (Go.Sort.flatK impl_LabelsOf.enc 2 d.toArray).size = d.length * 2 := by simp
 have hb1 : (sortWorldK impl_LabelsOf.enc 2 W b 0 n d.toArray os).heap[b]? = some (.cells (Go.Sort.putCells id 0 (Go.Sort.flatK impl_LabelsOf.enc 2 d.toArray) cur) 67 (0, 0)) := by
  unfold sortWorldK Go.Sort.putRowK
  rw [Go.Sort.heap_grow_old _ _ (by simpa [Go.Sort.putRow, Go.Sort.mapBlock, Go.Sort.ahead] using hblt)]
  simp [Go.Sort.putRow, Go.Sort.mapBlock, Go.Sort.ahead, Array.getElem?_modify, hb, Go.Sort.onCells]
 have hgr : W.grownBy (sortWorldK impl_LabelsOf.enc 2 W b 0 n d.toArray os) (some b) := by
  unfold sortWorldK Go.Sort.putRowK
  refine ⟨rfl, rfl, rfl, by simp [Go.Sort.grow, Go.Sort.putRow, Go.Sort.mapBlock, Go.Sort.ahead], fun k hk hne => ?_⟩
  rw [Go.Sort.heap_grow_old _ _ (by simpa [Go.Sort.putRow, Go.Sort.mapBlock, Go.Sort.ahead] using hk)]
  have : b ≠ k := fun e => hne (by rw [e])
  simp [Go.Sort.putRow, Go.Sort.mapBlock, Go.Sort.ahead, Array.getElem?_modify, this]
 refine ⟨⟨fun _ _ => trivial, (Go.Sort.flatK impl_LabelsOf.enc 2 d.toArray).toList, ⟨by rw [Array.length_toList, hF]; rfl, .inr ⟨b, c, _, by rw [hl], hg, hb1, by omega, hcap, by show (Go.Sort.putCells id 0 (Go.Sort.flatK impl_LabelsOf.enc 2 d.toArray) cur).size = c * 2; rw [← hcs]; simp [Go.Sort.putCells], ?_⟩⟩, ?_⟩, HB.grown hgr hbase (fun j hj => by cases hj; exact hg)⟩
 · show (Go.Sort.putCells id 0 (Go.Sort.flatK impl_LabelsOf.enc 2 d.toArray) cur).toList.take (d.length * 2) = _
   rw [← hF]
   apply List.ext_getElem?
   intro j
   by_cases hj : j < (Go.Sort.flatK impl_LabelsOf.enc 2 d.toArray).size
   · rw [List.getElem?_take_of_lt hj, Array.getElem?_toList, Array.getElem?_toList]
     have hjc : j < cur.size := by omega
     simp only [Go.Sort.putCells, Array.getElem?_mapIdx, Array.getElem?_eq_getElem hjc, Option.map_some]
     rw [if_pos ⟨Nat.zero_le _, by omega⟩, Nat.sub_zero, Array.getElem?_eq_getElem hj, getElem!_pos (Go.Sort.flatK impl_LabelsOf.enc 2 d.toArray) j hj]; rfl
   · rw [List.getElem?_take_eq_none (by omega), List.getElem?_eq_none (by rw [Array.length_toList]; omega)]
 · refine ⟨by rw [Array.length_toList, hF]; rfl, fun j p hp => ?_⟩
   obtain ⟨hj, rfl⟩ := List.getElem?_eq_some_iff.1 hp
   obtain ⟨f0, f1⟩ := impl_LabelsOf.flat d j hj
   have : ((Go.Sort.flatK impl_LabelsOf.enc 2 d.toArray).toList.drop (j * 2)).take 2 = [.string d[j].f0, .int .i64 d[j].f1] := by
    apply List.ext_getElem?
    intro i
    rcases i with _ | _ | i
    · rw [List.getElem?_take_of_lt (by omega), List.getElem?_drop, Array.getElem?_toList, show j * 2 + 0 = 2 * j by omega, f0]; rfl
    · rw [List.getElem?_take_of_lt (by omega), List.getElem?_drop, Array.getElem?_toList, show j * 2 + (0 + 1) = 2 * j + 1 by omega, f1]; rfl
    · rw [List.getElem?_take_eq_none (by omega)]; rfl
   show k67.M _ _ _ _ (((Go.Sort.flatK impl_LabelsOf.enc 2 d.toArray).toList.drop (j * 2)).take 2)
   rw [this]
   exact k67_mkM _ _ _ _
--PART2--
set_option maxRecDepth 100000 in
/-- slices.SortFunc over the labels. -/
theorem impl_LabelsOf.sort {w0 W : World} {v : Value} {A : Option Addr} {c : Nat} (l : List S67) (hl : l.length ≤ 1000000) (h : Kd.R k67 67 W w0.heap.size (fun _ => True) (.slice A l.length c) l) (HB : Below w0.heap.size w0 W) :
 Calls Tryz.prog 33 #[.slice A l.length c, .func (.func 34) #[] #[]] W fun e w' => e = .returned (.tuple #[]) ∧ Kd.R k67 67 w' w0.heap.size (fun _ => True) (.slice A l.length c) (impl_LabelsOf.sorted l) ∧ Below w0.heap.size w0 w' := by
 unfold impl_LabelsOf.sorted
 by_cases h0 : l = []
 · subst h0
   rw [if_pos rfl]
   refine (AnyF.slices_SortFunc_none Tryz.sortLabel A c (.func (.func 34) #[] #[]) W).mono ?_
   rintro e w' ⟨rfl, rfl⟩
   exact ⟨rfl, h, HB⟩
 · rw [if_neg h0]
   have hpos : 0 < l.length := List.length_pos_iff.2 h0
   obtain ⟨b, rfl⟩ := impl_assemble.addr h hpos
   obtain ⟨inner, ho⟩ := Kd.R_own h
   obtain ⟨cells, hb⟩ := own_typed ho b rfl
   have eg : ∀ args w, (callFunc 34 args).run Tryz.prog w = .ok (.enter 34 args) w := enters_of Tryz.func34 (by kernel_rfl) rfl
   have hcon := AnyQ.slices_SortFunc_eq Tryz.sortLabel 2 Tryz.isAgg67 Tryz.sizeOf67 impl_LabelsOf.enc (fun _ => rfl) (fun x v hv => by simp [impl_LabelsOf.enc] at hv; rcases hv with rfl | rfl <;> rfl) impl_LabelsOf.cf impl_LabelsOf.swo 34 #[] b 0 c l.toArray W eg (fun _ _ _ _ x y => impl_LabelsOf.closure x y _) (impl_LabelsOf.holds h) (blk_lt hb) (by simp; omega)
   have hp := Go.Sort.pdq_sorts (ltOf impl_LabelsOf.cf) impl_LabelsOf.swo l.toArray 0 l.toArray.size (Lib.bitLen l.toArray.size) true true (Nat.zero_le _) (Nat.le_refl _) (Or.inl rfl)
   refine hcon.mono ?_
   rintro e w' ⟨rfl, n, os, rfl⟩
   have hsz : (Go.Sort.pdq (ltOf impl_LabelsOf.cf) l.toArray 0 l.length (Lib.bitLen l.length) true true).toList.length = l.length := by rw [Array.length_toList]; exact hp.1.1
   obtain ⟨p1, p2⟩ := impl_LabelsOf.put (n := n) (os := os) (d := (Go.Sort.pdq (ltOf impl_LabelsOf.cf) l.toArray 0 l.length (Lib.bitLen l.length) true true).toList) h hsz HB (below_size HB)
   exact ⟨rfl, p1, p2⟩
theorem impl_LabelsOf.fit (a0 : ByteArray) (ws : List Int) (c : Int) (h : impl_assemble.f a0 = some (ws, 0, c)) : impl_assemble.fit a0 = true ∧ (impl_assemble.lines a0).length ≤ 600 := by
 unfold impl_assemble.f at h
 split at h
 · split at h
   · assumption
   · simp only [Option.some.injEq, Prod.mk.injEq] at h
     omega
 · cases h
theorem impl_LabelsOf.labs_len : ∀ (ls : List ByteArray) (n : Nat) (acc r : List S67), impl_LabelsOf.labs ls n acc = some r → r.length ≤ acc.length + ls.length
 | [], _, acc, r, h => by
  obtain rfl := Option.some.inj h
  simp
 | x :: t, n, acc, r, h => by
  unfold impl_LabelsOf.labs at h
  obtain ⟨q, _, h⟩ := Option.bind_eq_some_iff.1 h
  split at h
  · have := impl_LabelsOf.labs_len t n _ r h; simp at this ⊢; omega
  · have := impl_LabelsOf.labs_len t (n + 1) _ r h; simp at this ⊢; omega
/-- What stays through the lines. -/
structure impl_LabelsOf.St (w : World) (g : Nat) (ps : List ByteArray) (lb : List S67) (v8 : Value) (W : World) : Prop where
 lines : W.heap[g]? = some (.cells (ps.map Value.string).toArray 9 (0, 0))
 labs : Kd.R k67 67 W w.heap.size (fun _ => True) v8 lb
 below : Below w.heap.size w W
section
variable {w W W' : World} {g : Nat} {ps : List ByteArray} {lb : List S67} {v8 : Value}
theorem impl_LabelsOf.St.mono (h : impl_LabelsOf.St w g ps lb v8 W) (hb : Below W.heap.size W W') : impl_LabelsOf.St w g ps lb v8 W' := ⟨blk_below h.lines hb, Kd.R_below h.labs hb, below_step h.below hb⟩
theorem impl_LabelsOf.St.drewN (h : impl_LabelsOf.St w g ps lb v8 W) (n : Nat) : impl_LabelsOf.St w g ps lb v8 (W.drewN n) := ⟨blk_drewN h.lines n, Kd.R_drewN h.labs n, pw_below_drewN h.below n⟩
theorem impl_LabelsOf.St.drew (h : impl_LabelsOf.St w g ps lb v8 W) : impl_LabelsOf.St w g ps lb v8 W.drew := ⟨blk_drew h.lines, Kd.R_drew h.labs, below_drew1 h.below⟩
theorem impl_LabelsOf.St.alloc (h : impl_LabelsOf.St w g ps lb v8 W) (o : Obj) : impl_LabelsOf.St w g ps lb v8 (W.alloc o) := h.mono (below_alloc (Below.refl _ _) o)
theorem impl_LabelsOf.St.set (h : impl_LabelsOf.St w g ps lb v8 W) {gb : Nat} {cs : Array Value} (hb : W.heap[gb]? = some (.cells cs 64 (0, 0))) (hge : w.heap.size ≤ gb) (j : Nat) (u : Value) : impl_LabelsOf.St w g ps lb v8 (W.setCell ⟨gb, j, none⟩ u) :=
 ⟨blk_far h.lines (blk_ne h.lines hb (by decide)) u, Kd.R_set h.labs hb (by decide) j u, below_set h.below hge⟩
theorem impl_LabelsOf.St.box (h : impl_LabelsOf.St w g ps lb v8 W) {gb : Nat} {c0 c1 c2 c3 c4 c5 c6 c7 : Value} (hb : W.heap[gb]? = some (.cells #[c0, c1, c2, c3, c4, c5, c6, c7] 64 (0, 0))) (hge : w.heap.size ≤ gb) (u0 u1 u2 u3 u4 u5 u6 u7 : Value) :
 impl_LabelsOf.St w g ps lb v8 ((((((((W.setCell ⟨gb, 0, none⟩ u0).setCell ⟨gb, 1, none⟩ u1).setCell ⟨gb, 2, none⟩ u2).setCell ⟨gb, 3, none⟩ u3).setCell ⟨gb, 4, none⟩ u4).setCell ⟨gb, 5, none⟩ u5).setCell ⟨gb, 6, none⟩ u6).setCell ⟨gb, 7, none⟩ u7) ∧
 ((((((((W.setCell ⟨gb, 0, none⟩ u0).setCell ⟨gb, 1, none⟩ u1).setCell ⟨gb, 2, none⟩ u2).setCell ⟨gb, 3, none⟩ u3).setCell ⟨gb, 4, none⟩ u4).setCell ⟨gb, 5, none⟩ u5).setCell ⟨gb, 6, none⟩ u6).setCell ⟨gb, 7, none⟩ u7).heap[gb]? = some (.cells #[u0, u1, u2, u3, u4, u5, u6, u7] 64 (0, 0)) := by
 have b0 := blk_put hb 0 u0 (cs' := #[u0, c1, c2, c3, c4, c5, c6, c7]) rfl
 have b1 := blk_put b0 1 u1 (cs' := #[u0, u1, c2, c3, c4, c5, c6, c7]) rfl
 have b2 := blk_put b1 2 u2 (cs' := #[u0, u1, u2, c3, c4, c5, c6, c7]) rfl
 have b3 := blk_put b2 3 u3 (cs' := #[u0, u1, u2, u3, c4, c5, c6, c7]) rfl
 have b4 := blk_put b3 4 u4 (cs' := #[u0, u1, u2, u3, u4, c5, c6, c7]) rfl
 have b5 := blk_put b4 5 u5 (cs' := #[u0, u1, u2, u3, u4, u5, c6, c7]) rfl
 have b6 := blk_put b5 6 u6 (cs' := #[u0, u1, u2, u3, u4, u5, u6, c7]) rfl
 have b7 := blk_put b6 7 u7 (cs' := #[u0, u1, u2, u3, u4, u5, u6, u7]) rfl
 exact ⟨(((((((h.set hb hge 0 u0).set b0 hge 1 u1).set b1 hge 2 u2).set b2 hge 3 u3).set b3 hge 4 u4).set b4 hge 5 u5).set b5 hge 6 u6).set b6 hge 7 u7, b7⟩
theorem impl_LabelsOf.St.label (h : impl_LabelsOf.St w g ps lb v8 W) {v1 : Value} {lb' : List S67} (ho : Kd.R k67 67 W' w.heap.size (fun _ => True) v1 lb') (hb : Below w.heap.size w W') (hg : W.grownBy W' v8.ownBlock) : impl_LabelsOf.St w g ps lb' v1 W' :=
 ⟨blk_grown h.lines hg (Kd.R_ne h.labs h.lines (by decide)), ho, hb⟩
end
theorem impl_LabelsOf.infoL : (Tryz.prog.info? 67).map (fun i => (i.zero, i.size, i.bytes)) = some (some (.agg #[.string ⟨#[]⟩, .int .i64 0]), 2, 24) := by kernel_rfl
set_option maxHeartbeats 8000000 in
set_option maxRecDepth 100000 in
theorem impl_LabelsOf.bad (a0 : ByteArray) (ws : List Int) (c line : Int) (w : World) (ht : Tab.TabsODEM w) (hA : impl_assemble.f a0 = some (ws, c, line)) (hc : ¬ c = 0) :
 Calls Tryz.prog 13 #[.string a0] w fun e w' => e = .returned (.slice none 0 0) ∧ Below w.heap.size w w' := by
 have HA := Lib.hid (impl_assemble.calls a0 ws c line w ht hA)
 have c0 : (c != 0) = true := bne_iff_ne.2 hc
 have c1 : (c == 0) = false := beq_eq_false_iff_ne.2 hc
 clear hA hc ht
 go_enter Tryz.func13, Tryz.ntmps13
 go_wp2_with (first | ((with_reducible refine HA.out.mono ?_); rintro e w1 ⟨v1, rfl, _, hb⟩; have HB := Aside0.mk hb; clear hb))
 go_ret
 exact ⟨rfl, by (with_reducible repeat (first | apply below_alloc | apply pw_below_drewN | apply below_drew1)); exact HB.out⟩
--WALK--
set_option maxHeartbeats 8000000 in
set_option maxRecDepth 100000 in
theorem impl_LabelsOf.walk (a0 : ByteArray) (ws : List Int) (line : Int) (L : List S67) (w : World) (ht : Tab.TabsODEM w) (hA : impl_assemble.f a0 = some (ws, 0, line)) (hL : impl_LabelsOf.labs (impl_assemble.lines a0) 0 [] = some L) :
 Calls Tryz.prog 13 #[.string a0] w fun e w' => ∃ v0_ : Value, e = .returned v0_ ∧ Kd.R k67 67 w' w.heap.size (fun _ => True) v0_ (impl_LabelsOf.sorted L) ∧ Below w.heap.size w w' := by
 obtain ⟨hfit, hlen⟩ := impl_LabelsOf.fit a0 ws line hA
 have HA := Lib.hid (impl_assemble.calls a0 ws 0 line w ht hA)
 have HL := fun W (ht : Tab.TabsODEM W) => impl_assemble.linesGood a0 W ht hfit
 rw [decide_eq_true hlen] at HL
 obtain ⟨lst, hps⟩ : ∃ x, impl_assemble.pieces a0 = impl_assemble.lines a0 ++ [x] := by
  have h1 := impl_assemble.length_lines a0
  have hne : impl_assemble.pieces a0 ≠ [] := by intro e; rw [e] at h1; simp at h1
  exact ⟨_, (List.dropLast_concat_getLast hne).symm⟩
 rw [hps] at HL
 have HLL := Aside0.mk (show L.length ≤ 600 by have := impl_LabelsOf.labs_len _ _ _ _ hL; simp at this; omega)
 generalize impl_assemble.lines a0 = ls at *
 generalize impl_assemble.pieces a0 = ps at *
 have HL := Lib.hid HL
 have HT := Aside0.mk ht
 have HGO := Aside0.mk hL
 have HLEN := Aside0.mk hlen
 clear ht hps hfit hL hlen hA
 have hu64 := Tryz.underlying64
 have hu67 := Tryz.underlying67
 go_enter Tryz.func13, Tryz.ntmps13
 go_wp2_with (first | ((with_reducible refine HA.out.mono ?_); rintro e w0 ⟨v1, rfl, _, hb⟩; have HB0 := Aside0.mk hb; clear hb) | ((with_reducible refine (HL.out _ ?hT).mono ?_); (case hT => exact HT.out.below HB0.out); rintro e w1 ⟨g, rfl, hg, hge, hb⟩; have HS := Aside0.mk (show impl_LabelsOf.St w g (ls ++ [lst]) [] (.slice none 0 0) w1 from ⟨hg, Kd.R_nil _ _ _ _ _, below_step HB0.out hb⟩); clear hg hge hb))
 go_loopg [28, 8, 9] (ls.length + 1) (fun gk v28 v8 v9 wr => ∃ (n m : Nat) (lb : List S67), v28 = .int .i64 n ∧ v9 = .int .i64 m ∧ n ≤ ls.length ∧ Aside0 (m ≤ n) ∧ Aside0 (n + gk = ls.length + 1) ∧ Aside0 (lb.length ≤ n) ∧ Aside0 (impl_LabelsOf.labs (ls.drop n) m lb = some L) ∧ Aside0 (impl_LabelsOf.St w g (ls ++ [lst]) lb v8 wr))
 case atStart => exact ⟨0, 0, [], rfl, rfl, Nat.zero_le _, ⟨Nat.le_refl _⟩, ⟨Nat.zero_add _⟩, ⟨Nat.le_refl _⟩, HGO, HS⟩
 case round =>
  clear HS HGO HB0 HA HL
  obtain ⟨n, m, lb, rfl, rfl, hn, HM, HK, HLB, HGO, HS⟩ := hrel
  obtain ⟨A8, c8, e8⟩ := Kd.R_slice HS.out.labs
  subst e8
  by_cases hlt : n < ls.length
  · have d3 : decide (n < ls.length) = true := decide_eq_true hlt
    have HLT := Aside0.mk hlt
    obtain ⟨x, hx⟩ : ∃ x, ls[n]? = some x := ⟨_, List.getElem?_eq_getElem hlt⟩
    have cx : wr.cell? ⟨g, n, none⟩ = some (.string x) := by rw [blk_cell HS.out.lines n]; simp; rw [List.getElem?_append_left (by simpa using hlt)]; simp [hx]
    have hdrop : ls.drop n = x :: ls.drop (n + 1) := by rw [List.drop_eq_getElem_cons hlt]; rw [List.getElem?_eq_getElem hlt] at hx; rw [Option.some.inj hx]
    have hgo := HGO.out
    rw [hdrop] at hgo
    unfold impl_LabelsOf.labs at hgo
    obtain ⟨⟨q, op, a, b, c, imm, word, lab⟩, hrd, hgo⟩ := Option.bind_eq_some_iff.1 hgo
    dsimp only at hgo
    have HWR := Aside0.mk (show wrap64 ((n : Int) + 1) = (n : Int) + 1 by unfold wrap64; have := HLEN.out; omega)
    have HWM := Aside0.mk (show wrap64 ((m : Int) + 1) = (m : Int) + 1 by unfold wrap64; have := HLEN.out; have := HM.out; omega)
    have HRL := Lib.hid (fun W ht => impl_readLine.calls x q op a b c imm word lab W ht hrd)
    clear hdrop HGO hx hrd
    go_upto_region 11 with (first | ((with_reducible refine (HRL.out _ ?hT).mono ?_); (case hT => exact HT.out.below (by (with_reducible repeat (first | apply below_alloc | apply pw_below_drewN | apply below_drew1)); exact HS.out.below)); rintro e w3 ⟨rfl, hb_⟩; have n0_ := Aside0.mk (impl_LabelsOf.St.mono (by (with_reducible repeat (first | apply impl_LabelsOf.St.alloc | apply impl_LabelsOf.St.drewN | apply impl_LabelsOf.St.drew)); exact HS.out) hb_); clear hb_; have HS1 := n0_; clear n0_) | ((with_reducible refine gate_dst (N := 12) rfl ?_); refine box_event ?hg (N := 12) ?hd (cs := #[.int .i64 0, .int .i64 0, .int .i64 0, .int .i64 0, .int .i64 0, .int .i64 0, .int .u32 0, .string ⟨#[]⟩]) (t := 64) ?hr ?_; (case hd => rfl); (case hg => rfl); (case hr => first | (go_simp; done) | (go_simp; rfl)); intro gb hg_ w4 hbox hb_; have n0_ := Aside0.mk (impl_LabelsOf.St.mono (by (with_reducible repeat (first | apply impl_LabelsOf.St.alloc | apply impl_LabelsOf.St.drewN | apply impl_LabelsOf.St.drew)); exact HS1.out) hb_); have n1_ := Aside0.mk hbox; have n2_ := Aside0.mk (show w.heap.size ≤ gb by rw [hg_]; exact below_size (by (with_reducible repeat (first | apply below_alloc | apply pw_below_drewN | apply below_drew1)); exact HS1.out.below)); clear hg_ hbox hb_; have HS3 := n0_; have BKgb := n1_; have GEgb := n2_; clear n0_ n1_ n2_; have uzgb0 : w4.cell? ⟨gb, 0, none⟩ = some (.int .i64 0) := (blk_cell BKgb.out 0).trans rfl; have uzgb1 : w4.cell? ⟨gb, 1, none⟩ = some (.int .i64 0) := (blk_cell BKgb.out 1).trans rfl; have uzgb2 : w4.cell? ⟨gb, 2, none⟩ = some (.int .i64 0) := (blk_cell BKgb.out 2).trans rfl; have uzgb3 : w4.cell? ⟨gb, 3, none⟩ = some (.int .i64 0) := (blk_cell BKgb.out 3).trans rfl; have uzgb4 : w4.cell? ⟨gb, 4, none⟩ = some (.int .i64 0) := (blk_cell BKgb.out 4).trans rfl; have uzgb5 : w4.cell? ⟨gb, 5, none⟩ = some (.int .i64 0) := (blk_cell BKgb.out 5).trans rfl; have uzgb6 : w4.cell? ⟨gb, 6, none⟩ = some (.int .u32 0) := (blk_cell BKgb.out 6).trans rfl; have uzgb7 : w4.cell? ⟨gb, 7, none⟩ = some (.string ⟨#[]⟩) := (blk_cell BKgb.out 7).trans rfl; have fzgb0 := blk_frozen BKgb.out 0; have fzgb1 := blk_frozen BKgb.out 1; have fzgb2 := blk_frozen BKgb.out 2; have fzgb3 := blk_frozen BKgb.out 3; have fzgb4 := blk_frozen BKgb.out 4; have fzgb5 := blk_frozen BKgb.out 5; have fzgb6 := blk_frozen BKgb.out 6; have fzgb7 := blk_frozen BKgb.out 7))
    (try simp only [Act.put, List.setIfInBounds_toArray, List.set_cons_zero, List.set_cons_succ])
    obtain ⟨s1, s2⟩ := HS3.out.box BKgb.out GEgb.out (.int .i64 q) (.int .i64 op) (.int .i64 a) (.int .i64 b) (.int .i64 c) (.int .i64 imm) (.int .u32 word) (.string lab)
    have HS4 := Aside0.mk s1
    have BK4 := Aside0.mk s2
    clear s1 s2 HS3 HS1 BKgb HRL HS uzgb0 fzgb0 uzgb1 fzgb1 uzgb2 fzgb2 uzgb3 fzgb3 uzgb4 fzgb4 uzgb5 fzgb5 uzgb6 fzgb6 uzgb7 fzgb7
    generalize (World.setCell (World.setCell (World.setCell (World.setCell (World.setCell (World.setCell (World.setCell (World.setCell w4 ⟨gb, 0, none⟩ (.int .i64 q)) ⟨gb, 1, none⟩ (.int .i64 op)) ⟨gb, 2, none⟩ (.int .i64 a)) ⟨gb, 3, none⟩ (.int .i64 b)) ⟨gb, 4, none⟩ (.int .i64 c)) ⟨gb, 5, none⟩ (.int .i64 imm)) ⟨gb, 6, none⟩ (.int .u32 word)) ⟨gb, 7, none⟩ (.string lab)) = wb at HS4 BK4 ⊢
    have ub0 : wb.cell? ⟨gb, 0, none⟩ = some (.int .i64 q) := (blk_cell BK4.out 0).trans rfl
    have ub1 : wb.cell? ⟨gb, 1, none⟩ = some (.int .i64 op) := (blk_cell BK4.out 1).trans rfl
    have ub2 : wb.cell? ⟨gb, 2, none⟩ = some (.int .i64 a) := (blk_cell BK4.out 2).trans rfl
    have ub3 : wb.cell? ⟨gb, 3, none⟩ = some (.int .i64 b) := (blk_cell BK4.out 3).trans rfl
    have ub4 : wb.cell? ⟨gb, 4, none⟩ = some (.int .i64 c) := (blk_cell BK4.out 4).trans rfl
    have ub5 : wb.cell? ⟨gb, 5, none⟩ = some (.int .i64 imm) := (blk_cell BK4.out 5).trans rfl
    have ub6 : wb.cell? ⟨gb, 6, none⟩ = some (.int .u32 word) := (blk_cell BK4.out 6).trans rfl
    have ub7 : wb.cell? ⟨gb, 7, none⟩ = some (.string lab) := (blk_cell BK4.out 7).trans rfl
    have fb0 := blk_frozen BK4.out 0
    have fb1 := blk_frozen BK4.out 1
    have fb2 := blk_frozen BK4.out 2
    have fb3 := blk_frozen BK4.out 3
    have fb4 := blk_frozen BK4.out 4
    have fb5 := blk_frozen BK4.out 5
    have fb6 := blk_frozen BK4.out 6
    have fb7 := blk_frozen BK4.out 7
    by_cases k1 : q = 1
    case pos =>
     rw [if_pos k1] at hgo
     have HGN := Aside0.mk hgo
     have k1b : (q == 1) = true := beq_iff_eq.2 k1
     have k1c : (q != 1) = false := bne_eq_false_iff_eq.2 k1
     clear hgo k1
     go_wp2_with (first | ((with_reducible refine gate_builtin (b := .append) (xs := #[.tmp 37, .tmp 42]) rfl ?_); at_builtin; refine Kd.R_append k67 (w0 := w) w.heap.size rfl (.tmp 37) (.tmp 42) 32 67 _ 24 rfl Tryz.underlying32 impl_LabelsOf.infoL rfl (by decide) (by omega) (.slice A8 lb.length c8) lb (⟨lab, (m : Int)⟩ : S67) [.string lab, .int .i64 m] (fun _ => True) (fun _ => False) rfl (by first | (go_simp; done) | (go_simp; rfl)) ?aP (fun _ hk => hk.elim) ?aF ?aO ?aB ?aS ?aL ?_; (case aP => exact k67_mkM _ _ _ (⟨lab, (m : Int)⟩ : S67)); (case aB => exact (by (with_reducible repeat (first | apply below_alloc | apply pw_below_drewN | apply below_drew1)); exact HS4.out.below)); (case aF => exact (fun _ _ => trivial)); (case aO => exact (by (with_reducible repeat (first | apply Kd.R_alloc | apply Kd.R_drewN | apply Kd.R_drew)); exact HS4.out.labs)); (case aS => exact (below_size (by (with_reducible repeat (first | apply below_alloc | apply pw_below_drewN | apply below_drew1)); exact HS4.out.below))); (case aL => have h1 := HLB.out; have h2 := HLEN.out; have h3 := HLT.out; omega); intro v6b w6 ho_ hb_ hg_ hat_; have n0_ := Aside0.mk (impl_LabelsOf.St.label (by (with_reducible repeat (first | apply impl_LabelsOf.St.alloc | apply impl_LabelsOf.St.drewN | apply impl_LabelsOf.St.drew)); exact HS4.out) ho_ hb_ hg_); clear ho_ hb_ hg_ hat_; have HS6 := n0_; clear n0_))
     go_roundg (gk - 1)
     case measure => have h1 := HK.out; have h2 := HLT.out; omega
     case rel => exact ⟨n + 1, m, (lb ++ [⟨lab, (m : Int)⟩]), by rw [HWR.out]; rfl, rfl, HLT.out, ⟨by have h1 := HM.out; omega⟩, ⟨by have h1 := HK.out; have h2 := HLT.out; omega⟩, ⟨by have h1 := HLB.out; simp; omega⟩, HGN, ⟨(by (with_reducible repeat (first | apply impl_LabelsOf.St.alloc | apply impl_LabelsOf.St.drewN | apply impl_LabelsOf.St.drew)); exact HS6.out)⟩⟩
    case neg =>
     rw [if_neg k1] at hgo
     have HGN := Aside0.mk hgo
     have k1b : (q == 1) = false := beq_eq_false_iff_ne.2 k1
     have k1c : (q != 1) = true := bne_iff_ne.2 k1
     clear hgo k1
     go_wp2
     go_roundg (gk - 1)
     case measure => have h1 := HK.out; have h2 := HLT.out; omega
     case rel => exact ⟨n + 1, m + 1, lb, by rw [HWR.out]; rfl, by rw [HWM.out]; rfl, HLT.out, ⟨by have h1 := HM.out; omega⟩, ⟨by have h1 := HK.out; have h2 := HLT.out; omega⟩, ⟨by have h1 := HLB.out; omega⟩, HGN, ⟨(by (with_reducible repeat (first | apply impl_LabelsOf.St.alloc | apply impl_LabelsOf.St.drewN | apply impl_LabelsOf.St.drew)); exact HS4.out)⟩⟩
  · have d3 : decide (n < ls.length) = false := decide_eq_false hlt
    have hgo := HGO.out
    rw [List.drop_eq_nil_of_le (by omega)] at hgo
    unfold impl_LabelsOf.labs at hgo
    obtain rfl := Option.some.inj hgo
    have HSO := Lib.hid (fun (W : World) (h1 : Kd.R k67 67 W w.heap.size (fun _ => True) (.slice A8 lb.length c8) lb) (h2 : Below w.heap.size w W) => impl_LabelsOf.sort (v := .nilIface) lb (by have := HLL.out; omega) h1 h2)
    clear hgo hlt HGO
    go_wp2_with (first | ((with_reducible refine (HSO.out _ ?h1 ?h2).mono ?_); (case h1 => exact (by (with_reducible repeat (first | apply Kd.R_alloc | apply Kd.R_drewN | apply Kd.R_drew)); exact HS.out.labs)); (case h2 => exact (by (with_reducible repeat (first | apply below_alloc | apply pw_below_drewN | apply below_drew1)); exact HS.out.below)); rintro e w5 ⟨rfl, ho_, hb_⟩; have HO5 := Aside0.mk ho_; have HB5 := Aside0.mk hb_; clear ho_ hb_))
    go_ret
    exact ⟨_, rfl, (by (with_reducible repeat (first | apply Kd.R_alloc | apply Kd.R_drewN | apply Kd.R_drew)); exact HO5.out), (by (with_reducible repeat (first | apply below_alloc | apply pw_below_drewN | apply below_drew1)); exact HB5.out)⟩
theorem impl_LabelsOf.calls (a0 : ByteArray) (r : List S67) (w : World) (ht : Tab.TabsODEM w) (h : impl_LabelsOf.f a0 = some r) :
 Calls Tryz.prog 13 #[.string a0] w fun e w' => ∃ v0_ : Value, e = .returned (v0_) ∧ Kd.R k67 67 w' w.heap.size (fun _ => True) v0_ r ∧ Below w.heap.size w w' := by
 unfold impl_LabelsOf.f at h
 obtain ⟨⟨ws, c, line⟩, hA, h⟩ := Option.bind_eq_some_iff.1 h
 dsimp only at h
 by_cases hc : c = 0
 · rw [if_pos hc] at h
   subst hc
   obtain ⟨L, hL, h⟩ := Option.bind_eq_some_iff.1 h
   obtain rfl := Option.some.inj h
   exact impl_LabelsOf.walk a0 ws line L w ht hA hL
 · rw [if_neg hc] at h
   obtain rfl := Option.some.inj h
   exact (impl_LabelsOf.bad a0 ws c line w ht hA hc).mono fun e w' ⟨h1, h2⟩ => ⟨_, h1, Kd.R_nil _ _ _ _ _, h2⟩

/-! ### laws_FnAssemble: function 4 -/
def laws_FnAssemble.f (k : Nat) (l0 : List Int) : Option (Bool) := (laws_big.f l0).bind fun t263 => (if t263 = true then (some true) else ((spec_DrawDisassemble.f k l0).bind fun t264 => ((impl_Disassemble.f t264).bind fun bt267 => (if (t264.length : Int) > 256 then (if bt267.2 = true then (some false) else (some (bt267.1.toList == ([] : List UInt8)))) else ((impl_Assemble.f bt267.1).bind fun bt269 => (if bt267.2 = true then (if bt269.2.1 = 0 then (if bt269.2.2 = 0 then ((laws_sameWords.f k bt269.1 t264).bind fun t274 => (if t274 = true then ((impl_LabelsOf.f bt267.1).bind fun t275 => (some ((t275.length : Int) == 0))) else (some false))) else (some false)) else (some false)) else (some false)))))))
set_option maxHeartbeats 8000000 in
set_option maxRecDepth 100000 in
theorem laws_FnAssemble.calls (k : Nat) (A0 : Option Addr) (c0 : Nat) (l0 : List Int) (r : Bool) (w : World) (hr0 : Kd.C (Kd.int .u8) w A0 l0.length l0) (hc0 : l0.length ≤ c0) (ht : Tab.TabsODEM w) (h : laws_FnAssemble.f k l0 = some r) :
 Calls Tryz.prog 4 #[.slice A0 l0.length c0] w fun e w' => e = .returned (.bool r) ∧ Below w.heap.size w w' := by
 have HR0 := Aside0.mk hr0
 have HC0 := Aside0.mk hc0
 clear hr0 hc0
 have HB := Aside0.mk (Below.refl w.heap.size w)
 have HTB := Aside0.mk ht
 clear ht
 have H : ((laws_big.f l0).bind fun t263 => (if t263 = true then (some true) else ((spec_DrawDisassemble.f k l0).bind fun t264 => ((impl_Disassemble.f t264).bind fun bt267 => (if (t264.length : Int) > 256 then (if bt267.2 = true then (some false) else (some (bt267.1.toList == ([] : List UInt8)))) else ((impl_Assemble.f bt267.1).bind fun bt269 => (if bt267.2 = true then (if bt269.2.1 = 0 then (if bt269.2.2 = 0 then ((laws_sameWords.f k bt269.1 t264).bind fun t274 => (if t274 = true then ((impl_LabelsOf.f bt267.1).bind fun t275 => (some ((t275.length : Int) == 0))) else (some false))) else (some false)) else (some false)) else (some false)))))))) = some r := h
 clear h
 replace H := Option.bind_eq_some_iff.mp H
 obtain ⟨t263, A20, H⟩ := H
 replace H : (if t263 = true then (some true) else ((spec_DrawDisassemble.f k l0).bind fun t264 => ((impl_Disassemble.f t264).bind fun bt267 => (if (t264.length : Int) > 256 then (if bt267.2 = true then (some false) else (some (bt267.1.toList == ([] : List UInt8)))) else ((impl_Assemble.f bt267.1).bind fun bt269 => (if bt267.2 = true then (if bt269.2.1 = 0 then (if bt269.2.2 = 0 then ((laws_sameWords.f k bt269.1 t264).bind fun t274 => (if t274 = true then ((impl_LabelsOf.f bt267.1).bind fun t275 => (some ((t275.length : Int) == 0))) else (some false))) else (some false)) else (some false)) else (some false))))))) = some r := H
 have A2 := Aside0.mk A20
 clear A20
 by_cases c3 : t263 = true
 · subst c3
   have H1 : (some true) = some r := by rw [if_pos rfl] at H; exact H
   clear H
   have H := H1
   clear H1
   obtain rfl := Option.some.inj H
   go_enter Tryz.func4, Tryz.ntmps4
   go_wp2_with (first | ((with_reducible refine gate_callee (f := 6) rfl ?_); refine goesL_ (some 10) rfl rfl Tryz.func6 (by kernel_rfl) rfl #[.slice A0 l0.length c0] rfl (by (try simp only [List.map_toArray, List.map_cons, List.map_nil]); first | done | rfl | (simp only [List.length_drop, List.length_take]; rfl)) ?_; (with_reducible refine (laws_big.calls _ _ l0 true _ ?side1 ?side2 A2.out).mono ?_); (case side1 => repeat (first | exact HR0.out | (with_reducible refine Kd.C_alloc ?_ _) | (with_reducible refine Kd.C_drewN ?_ _) | (with_reducible refine Kd.C_drew ?_))); (case side2 => exact HC0.out); rintro e w' ⟨rfl, ⟨nd, rfl⟩⟩; refine ⟨_, rfl, ?_⟩))
   go_ret
   exact ⟨by first | rfl | (simp [errW_none, errW_some] <;> rfl) | (simp [*, errW_none, errW_some] <;> rfl), by repeat (first | (with_reducible first | exact HB.out | apply below_alloc | apply pw_below_drewN | apply below_drew1) | exact HB.out)⟩
 · replace c3 := Bool.eq_false_iff.mpr c3
   subst c3
   have H1 : ((spec_DrawDisassemble.f k l0).bind fun t264 => ((impl_Disassemble.f t264).bind fun bt267 => (if (t264.length : Int) > 256 then (if bt267.2 = true then (some false) else (some (bt267.1.toList == ([] : List UInt8)))) else ((impl_Assemble.f bt267.1).bind fun bt269 => (if bt267.2 = true then (if bt269.2.1 = 0 then (if bt269.2.2 = 0 then ((laws_sameWords.f k bt269.1 t264).bind fun t274 => (if t274 = true then ((impl_LabelsOf.f bt267.1).bind fun t275 => (some ((t275.length : Int) == 0))) else (some false))) else (some false)) else (some false)) else (some false)))))) = some r := by rw [if_neg (show ¬ (false = true) by decide)] at H; exact H
   clear H
   have H := H1
   clear H1
   replace H := Option.bind_eq_some_iff.mp H
   obtain ⟨t264, A40, H⟩ := H
   replace H : ((impl_Disassemble.f t264).bind fun bt267 => (if (t264.length : Int) > 256 then (if bt267.2 = true then (some false) else (some (bt267.1.toList == ([] : List UInt8)))) else ((impl_Assemble.f bt267.1).bind fun bt269 => (if bt267.2 = true then (if bt269.2.1 = 0 then (if bt269.2.2 = 0 then ((laws_sameWords.f k bt269.1 t264).bind fun t274 => (if t274 = true then ((impl_LabelsOf.f bt267.1).bind fun t275 => (some ((t275.length : Int) == 0))) else (some false))) else (some false)) else (some false)) else (some false))))) = some r := H
   have A4 := Aside0.mk A40
   clear A40
   replace H := Option.bind_eq_some_iff.mp H
   obtain ⟨⟨t267, t268⟩, A50, H⟩ := H
   replace H : (if (t264.length : Int) > 256 then (if t268 = true then (some false) else (some (t267.toList == ([] : List UInt8)))) else ((impl_Assemble.f t267).bind fun bt269 => (if t268 = true then (if bt269.2.1 = 0 then (if bt269.2.2 = 0 then ((laws_sameWords.f k bt269.1 t264).bind fun t274 => (if t274 = true then ((impl_LabelsOf.f t267).bind fun t275 => (some ((t275.length : Int) == 0))) else (some false))) else (some false)) else (some false)) else (some false)))) = some r := H
   have A5 := Aside0.mk A50
   clear A50
   by_cases c6 : (t264.length : Int) > 256
   · rw [if_pos c6] at H
     have c6b0 : decide (256 < (t264.length : Int)) = true := decide_eq_true c6
     have c6b1 : decide (256 < t264.length) = true := decide_eq_true (by omega)
     clear c6
     by_cases c7 : t268 = true
     · subst c7
       have H1 : (some false) = some r := by rw [if_pos rfl] at H; exact H
       clear H
       have H := H1
       clear H1
       obtain rfl := Option.some.inj H
       go_enter Tryz.func4, Tryz.ntmps4
       go_wp2_with (first | ((with_reducible refine gate_callee (f := 6) rfl ?_); refine goesL_ (some 10) rfl rfl Tryz.func6 (by kernel_rfl) rfl #[.slice A0 l0.length c0] rfl (by (try simp only [List.map_toArray, List.map_cons, List.map_nil]); first | done | rfl | (simp only [List.length_drop, List.length_take]; rfl)) ?_; (with_reducible refine (laws_big.calls _ _ l0 false _ ?side1 ?side2 A2.out).mono ?_); (case side1 => repeat (first | exact HR0.out | (with_reducible refine Kd.C_alloc ?_ _) | (with_reducible refine Kd.C_drewN ?_ _) | (with_reducible refine Kd.C_drew ?_))); (case side2 => exact HC0.out); rintro e w' ⟨rfl, ⟨nd, rfl⟩⟩; refine ⟨_, rfl, ?_⟩) | ((with_reducible refine gate_callee (f := 10) rfl ?_); refine goesL_ (some 12) rfl rfl Tryz.func10 (by kernel_rfl) rfl #[.slice A0 l0.length c0] rfl (by (try simp only [List.map_toArray, List.map_cons, List.map_nil]); first | done | rfl | (simp only [List.length_drop, List.length_take]; rfl)) ?_; (with_reducible refine (spec_DrawDisassemble.calls k _ _ l0 t264 _ ?side1 ?side2 A4.out).mono ?_); (case side1 => repeat (first | exact HR0.out | (with_reducible refine Kd.C_alloc ?_ _) | (with_reducible refine Kd.C_drewN ?_ _) | (with_reducible refine Kd.C_drew ?_))); (case side2 => exact HC0.out); rintro e w8 ⟨v265, rfl, ho0, hb⟩; refine ⟨_, rfl, ?_⟩; have n0_ := Aside0.mk (Kd.R_lower ho0 (below_size (by repeat (first | (with_reducible first | exact HB.out | apply below_alloc | apply pw_below_drewN | apply below_drew1) | exact HB.out)))); have n1_ := Aside0.mk (below_step (by repeat (first | (with_reducible first | exact HB.out | apply below_alloc | apply pw_below_drewN | apply below_drew1) | exact HB.out)) hb); clear HB; have HO266 := n0_; have HB := n1_; clear n0_ n1_; (try clear hb); (try clear hb2); (try clear hk); (try clear hi); (try clear ho0); obtain ⟨Ao9, co9, eo9⟩ := Kd.R_slice HO266.out; subst eo9) | ((with_reducible refine gate_callee (f := 11) rfl ?_); refine goesL_ (some 15) rfl rfl Tryz.func11 (by kernel_rfl) rfl #[.slice Ao9 t264.length co9] rfl (by (try simp only [List.map_toArray, List.map_cons, List.map_nil]); first | done | rfl | (simp only [List.length_drop, List.length_take]; rfl)) ?_; (with_reducible refine (impl_Disassemble.calls _ _ t264 t267 true _ ?side1 ?side2 ?side3 A5.out).mono ?_); (case side1 => repeat (first | exact (Kd.R_reads' HO266.out).2.2 | (with_reducible refine Kd.C_alloc ?_ _) | (with_reducible refine Kd.C_drewN ?_ _) | (with_reducible refine Kd.C_drew ?_))); (case side2 => exact (Kd.R_reads' HO266.out).2.1); (case side3 => exact Tab.TabsODEM.below HTB.out (by repeat (first | (with_reducible first | exact HB.out | apply below_alloc | apply pw_below_drewN | apply below_drew1) | exact HB.out))); rintro e w10 ⟨rfl, hb⟩; refine ⟨_, rfl, ?_⟩; have n0_ := Aside0.mk (Kd.R_below (by (with_reducible repeat (first | apply Kd.R_alloc | apply Kd.R_drewN | apply Kd.R_drew)); exact HO266.out) hb); have n1_ := Aside0.mk (below_step (by repeat (first | (with_reducible first | exact HB.out | apply below_alloc | apply pw_below_drewN | apply below_drew1) | exact HB.out)) hb); clear HO266; clear HB; have HO266 := n0_; have HB := n1_; clear n0_ n1_; (try clear hb); (try clear hb2); (try clear hk); (try clear hi)))
       go_ret
       exact ⟨by first | rfl | (simp [errW_none, errW_some] <;> rfl) | (simp [*, errW_none, errW_some] <;> rfl), by repeat (first | (with_reducible first | exact HB.out | apply below_alloc | apply pw_below_drewN | apply below_drew1) | exact HB.out)⟩
     · replace c7 := Bool.eq_false_iff.mpr c7
       subst c7
       have H1 : (some (t267.toList == ([] : List UInt8))) = some r := by rw [if_neg (show ¬ (false = true) by decide)] at H; exact H
       clear H
       have H := H1
       clear H1
       obtain rfl := Option.some.inj H
       go_enter Tryz.func4, Tryz.ntmps4
       go_wp2_with (first | ((with_reducible refine gate_callee (f := 6) rfl ?_); refine goesL_ (some 10) rfl rfl Tryz.func6 (by kernel_rfl) rfl #[.slice A0 l0.length c0] rfl (by (try simp only [List.map_toArray, List.map_cons, List.map_nil]); first | done | rfl | (simp only [List.length_drop, List.length_take]; rfl)) ?_; (with_reducible refine (laws_big.calls _ _ l0 false _ ?side1 ?side2 A2.out).mono ?_); (case side1 => repeat (first | exact HR0.out | (with_reducible refine Kd.C_alloc ?_ _) | (with_reducible refine Kd.C_drewN ?_ _) | (with_reducible refine Kd.C_drew ?_))); (case side2 => exact HC0.out); rintro e w' ⟨rfl, ⟨nd, rfl⟩⟩; refine ⟨_, rfl, ?_⟩) | ((with_reducible refine gate_callee (f := 10) rfl ?_); refine goesL_ (some 12) rfl rfl Tryz.func10 (by kernel_rfl) rfl #[.slice A0 l0.length c0] rfl (by (try simp only [List.map_toArray, List.map_cons, List.map_nil]); first | done | rfl | (simp only [List.length_drop, List.length_take]; rfl)) ?_; (with_reducible refine (spec_DrawDisassemble.calls k _ _ l0 t264 _ ?side1 ?side2 A4.out).mono ?_); (case side1 => repeat (first | exact HR0.out | (with_reducible refine Kd.C_alloc ?_ _) | (with_reducible refine Kd.C_drewN ?_ _) | (with_reducible refine Kd.C_drew ?_))); (case side2 => exact HC0.out); rintro e w11 ⟨v265, rfl, ho0, hb⟩; refine ⟨_, rfl, ?_⟩; have n0_ := Aside0.mk (Kd.R_lower ho0 (below_size (by repeat (first | (with_reducible first | exact HB.out | apply below_alloc | apply pw_below_drewN | apply below_drew1) | exact HB.out)))); have n1_ := Aside0.mk (below_step (by repeat (first | (with_reducible first | exact HB.out | apply below_alloc | apply pw_below_drewN | apply below_drew1) | exact HB.out)) hb); clear HB; have HO266 := n0_; have HB := n1_; clear n0_ n1_; (try clear hb); (try clear hb2); (try clear hk); (try clear hi); (try clear ho0); obtain ⟨Ao12, co12, eo12⟩ := Kd.R_slice HO266.out; subst eo12) | ((with_reducible refine gate_callee (f := 11) rfl ?_); refine goesL_ (some 15) rfl rfl Tryz.func11 (by kernel_rfl) rfl #[.slice Ao12 t264.length co12] rfl (by (try simp only [List.map_toArray, List.map_cons, List.map_nil]); first | done | rfl | (simp only [List.length_drop, List.length_take]; rfl)) ?_; (with_reducible refine (impl_Disassemble.calls _ _ t264 t267 false _ ?side1 ?side2 ?side3 A5.out).mono ?_); (case side1 => repeat (first | exact (Kd.R_reads' HO266.out).2.2 | (with_reducible refine Kd.C_alloc ?_ _) | (with_reducible refine Kd.C_drewN ?_ _) | (with_reducible refine Kd.C_drew ?_))); (case side2 => exact (Kd.R_reads' HO266.out).2.1); (case side3 => exact Tab.TabsODEM.below HTB.out (by repeat (first | (with_reducible first | exact HB.out | apply below_alloc | apply pw_below_drewN | apply below_drew1) | exact HB.out))); rintro e w13 ⟨rfl, hb⟩; refine ⟨_, rfl, ?_⟩; have n0_ := Aside0.mk (Kd.R_below (by (with_reducible repeat (first | apply Kd.R_alloc | apply Kd.R_drewN | apply Kd.R_drew)); exact HO266.out) hb); have n1_ := Aside0.mk (below_step (by repeat (first | (with_reducible first | exact HB.out | apply below_alloc | apply pw_below_drewN | apply below_drew1) | exact HB.out)) hb); clear HO266; clear HB; have HO266 := n0_; have HB := n1_; clear n0_ n1_; (try clear hb); (try clear hb2); (try clear hk); (try clear hi)))
       go_ret
       exact ⟨by first | rfl | (simp [errW_none, errW_some] <;> rfl) | (simp [*, errW_none, errW_some] <;> rfl), by repeat (first | (with_reducible first | exact HB.out | apply below_alloc | apply pw_below_drewN | apply below_drew1) | exact HB.out)⟩
   · rw [if_neg c6] at H
     have c6b0 : decide (256 < (t264.length : Int)) = false := decide_eq_false c6
     have c6b1 : decide (256 < t264.length) = false := decide_eq_false (by omega)
     clear c6
     replace H := Option.bind_eq_some_iff.mp H
     obtain ⟨⟨t269, t270, t271⟩, A140, H⟩ := H
     replace H : (if t268 = true then (if t270 = 0 then (if t271 = 0 then ((laws_sameWords.f k t269 t264).bind fun t274 => (if t274 = true then ((impl_LabelsOf.f t267).bind fun t275 => (some ((t275.length : Int) == 0))) else (some false))) else (some false)) else (some false)) else (some false)) = some r := H
     have A14 := Aside0.mk A140
     clear A140
     by_cases c15 : t268 = true
     · subst c15
       have H1 : (if t270 = 0 then (if t271 = 0 then ((laws_sameWords.f k t269 t264).bind fun t274 => (if t274 = true then ((impl_LabelsOf.f t267).bind fun t275 => (some ((t275.length : Int) == 0))) else (some false))) else (some false)) else (some false)) = some r := by rw [if_pos rfl] at H; exact H
       clear H
       have H := H1
       clear H1
       by_cases c16 : t270 = 0
       · rw [if_pos c16] at H
         have c16b0 : (t270 == 0) = true := beq_iff_eq.mpr c16
         have c16b1 : (t270 != 0) = false := bne_eq_false_iff_eq.mpr c16
         clear c16
         by_cases c17 : t271 = 0
         · rw [if_pos c17] at H
           have c17b0 : (t271 == 0) = true := beq_iff_eq.mpr c17
           have c17b1 : (t271 != 0) = false := bne_eq_false_iff_eq.mpr c17
           clear c17
           replace H := Option.bind_eq_some_iff.mp H
           obtain ⟨t274, A180, H⟩ := H
           replace H : (if t274 = true then ((impl_LabelsOf.f t267).bind fun t275 => (some ((t275.length : Int) == 0))) else (some false)) = some r := H
           have A18 := Aside0.mk A180
           clear A180
           by_cases c19 : t274 = true
           · subst c19
             have H1 : ((impl_LabelsOf.f t267).bind fun t275 => (some ((t275.length : Int) == 0))) = some r := by rw [if_pos rfl] at H; exact H
             clear H
             have H := H1
             clear H1
             replace H := Option.bind_eq_some_iff.mp H
             obtain ⟨t275, A200, H⟩ := H
             replace H : (some ((t275.length : Int) == 0)) = some r := H
             have A20 := Aside0.mk A200
             clear A200
             obtain rfl := Option.some.inj H
             go_enter Tryz.func4, Tryz.ntmps4
             go_wp2_with (first | ((with_reducible refine gate_callee (f := 6) rfl ?_); refine goesL_ (some 10) rfl rfl Tryz.func6 (by kernel_rfl) rfl #[.slice A0 l0.length c0] rfl (by (try simp only [List.map_toArray, List.map_cons, List.map_nil]); first | done | rfl | (simp only [List.length_drop, List.length_take]; rfl)) ?_; (with_reducible refine (laws_big.calls _ _ l0 false _ ?side1 ?side2 A2.out).mono ?_); (case side1 => repeat (first | exact HR0.out | (with_reducible refine Kd.C_alloc ?_ _) | (with_reducible refine Kd.C_drewN ?_ _) | (with_reducible refine Kd.C_drew ?_))); (case side2 => exact HC0.out); rintro e w' ⟨rfl, ⟨nd, rfl⟩⟩; refine ⟨_, rfl, ?_⟩) | ((with_reducible refine gate_callee (f := 10) rfl ?_); refine goesL_ (some 12) rfl rfl Tryz.func10 (by kernel_rfl) rfl #[.slice A0 l0.length c0] rfl (by (try simp only [List.map_toArray, List.map_cons, List.map_nil]); first | done | rfl | (simp only [List.length_drop, List.length_take]; rfl)) ?_; (with_reducible refine (spec_DrawDisassemble.calls k _ _ l0 t264 _ ?side1 ?side2 A4.out).mono ?_); (case side1 => repeat (first | exact HR0.out | (with_reducible refine Kd.C_alloc ?_ _) | (with_reducible refine Kd.C_drewN ?_ _) | (with_reducible refine Kd.C_drew ?_))); (case side2 => exact HC0.out); rintro e w21 ⟨v265, rfl, ho0, hb⟩; refine ⟨_, rfl, ?_⟩; have n0_ := Aside0.mk (Kd.R_lower ho0 (below_size (by repeat (first | (with_reducible first | exact HB.out | apply below_alloc | apply pw_below_drewN | apply below_drew1) | exact HB.out)))); have n1_ := Aside0.mk (below_step (by repeat (first | (with_reducible first | exact HB.out | apply below_alloc | apply pw_below_drewN | apply below_drew1) | exact HB.out)) hb); clear HB; have HO266 := n0_; have HB := n1_; clear n0_ n1_; (try clear hb); (try clear hb2); (try clear hk); (try clear hi); (try clear ho0); obtain ⟨Ao22, co22, eo22⟩ := Kd.R_slice HO266.out; subst eo22) | ((with_reducible refine gate_callee (f := 11) rfl ?_); refine goesL_ (some 15) rfl rfl Tryz.func11 (by kernel_rfl) rfl #[.slice Ao22 t264.length co22] rfl (by (try simp only [List.map_toArray, List.map_cons, List.map_nil]); first | done | rfl | (simp only [List.length_drop, List.length_take]; rfl)) ?_; (with_reducible refine (impl_Disassemble.calls _ _ t264 t267 true _ ?side1 ?side2 ?side3 A5.out).mono ?_); (case side1 => repeat (first | exact (Kd.R_reads' HO266.out).2.2 | (with_reducible refine Kd.C_alloc ?_ _) | (with_reducible refine Kd.C_drewN ?_ _) | (with_reducible refine Kd.C_drew ?_))); (case side2 => exact (Kd.R_reads' HO266.out).2.1); (case side3 => exact Tab.TabsODEM.below HTB.out (by repeat (first | (with_reducible first | exact HB.out | apply below_alloc | apply pw_below_drewN | apply below_drew1) | exact HB.out))); rintro e w23 ⟨rfl, hb⟩; refine ⟨_, rfl, ?_⟩; have n0_ := Aside0.mk (Kd.R_below (by (with_reducible repeat (first | apply Kd.R_alloc | apply Kd.R_drewN | apply Kd.R_drew)); exact HO266.out) hb); have n1_ := Aside0.mk (below_step (by repeat (first | (with_reducible first | exact HB.out | apply below_alloc | apply pw_below_drewN | apply below_drew1) | exact HB.out)) hb); clear HO266; clear HB; have HO266 := n0_; have HB := n1_; clear n0_ n1_; (try clear hb); (try clear hb2); (try clear hk); (try clear hi)) | ((with_reducible refine gate_callee (f := 9) rfl ?_); refine goesL_ (some 29) rfl rfl Tryz.func9 (by kernel_rfl) rfl #[.string t267] rfl (by (try simp only [List.map_toArray, List.map_cons, List.map_nil]); first | done | rfl | (simp only [List.length_drop, List.length_take]; rfl)) ?_; (with_reducible refine (impl_Assemble.calls t267 t269 t270 t271 _ ?side1 A14.out).mono ?_); (case side1 => exact Tab.TabsODEM.below HTB.out (by repeat (first | (with_reducible first | exact HB.out | apply below_alloc | apply pw_below_drewN | apply below_drew1) | exact HB.out))); rintro e w24 ⟨v272, rfl, ho0, hb⟩; refine ⟨_, rfl, ?_⟩; have n0_ := Aside0.mk (Kd.R_elder' (by (with_reducible repeat (first | apply Kd.R_alloc | apply Kd.R_drewN | apply Kd.R_drew)); exact HO266.out) (Kd.R_base ho0) hb); have n1_ := Aside0.mk (Kd.R_lower (Kd.R_new' ho0 (Kd.R_lt (by (with_reducible repeat (first | apply Kd.R_alloc | apply Kd.R_drewN | apply Kd.R_drew)); exact HO266.out))) (below_size (by repeat (first | (with_reducible first | exact HB.out | apply below_alloc | apply pw_below_drewN | apply below_drew1) | exact HB.out)))); have n2_ := Aside0.mk (below_step (by repeat (first | (with_reducible first | exact HB.out | apply below_alloc | apply pw_below_drewN | apply below_drew1) | exact HB.out)) hb); clear HO266; clear HB; have HO266 := n0_; have HO273 := n1_; have HB := n2_; clear n0_ n1_ n2_; (try clear hb); (try clear hb2); (try clear hk); (try clear hi); (try clear ho0); obtain ⟨Ao25, co25, eo25⟩ := Kd.R_slice HO273.out; subst eo25) | (go_at_call 12; (with_reducible refine (laws_sameWords.calls k _ _ t269 _ _ t264 true _ ?side1 ?side2 ?side3 ?side4 A18.out).mono ?_); (case side1 => repeat (first | exact (Kd.R_reads' HO273.out).2.2 | (with_reducible refine Kd.C_alloc ?_ _) | (with_reducible refine Kd.C_drewN ?_ _) | (with_reducible refine Kd.C_drew ?_))); (case side2 => exact (Kd.R_reads' HO273.out).2.1); (case side3 => repeat (first | exact (Kd.R_reads' HO266.out).2.2 | (with_reducible refine Kd.C_alloc ?_ _) | (with_reducible refine Kd.C_drewN ?_ _) | (with_reducible refine Kd.C_drew ?_))); (case side4 => exact (Kd.R_reads' HO266.out).2.1); rintro e w' ⟨rfl, ⟨nd, rfl⟩⟩) | (go_at_call 13; (with_reducible refine (impl_LabelsOf.calls t267 t275 _ ?side1 A20.out).mono ?_); (case side1 => exact Tab.TabsODEM.below HTB.out (by repeat (first | (with_reducible first | exact HB.out | apply below_alloc | apply pw_below_drewN | apply below_drew1) | exact HB.out))); rintro e w26 ⟨v276, rfl, ho0, hb⟩; have n0_ := Aside0.mk (Kd.R_below (by (with_reducible repeat (first | apply Kd.R_alloc | apply Kd.R_drewN | apply Kd.R_drew)); exact HO266.out) hb); have n1_ := Aside0.mk (Kd.R_below (by (with_reducible repeat (first | apply Kd.R_alloc | apply Kd.R_drewN | apply Kd.R_drew)); exact HO273.out) hb); have n2_ := Aside0.mk (Kd.R_lower ho0 (below_size (by repeat (first | (with_reducible first | exact HB.out | apply below_alloc | apply pw_below_drewN | apply below_drew1) | exact HB.out)))); have n3_ := Aside0.mk (below_step (by repeat (first | (with_reducible first | exact HB.out | apply below_alloc | apply pw_below_drewN | apply below_drew1) | exact HB.out)) hb); clear HO266; clear HO273; clear HB; have HO266 := n0_; have HO273 := n1_; have HO277 := n2_; have HB := n3_; clear n0_ n1_ n2_ n3_; (try clear hb); (try clear hb2); (try clear hk); (try clear hi); (try clear ho0); obtain ⟨Ao27, co27, eo27⟩ := Kd.R_slice HO277.out; subst eo27))
             go_ret
             exact ⟨by first | rfl | (simp [errW_none, errW_some] <;> rfl) | (simp [*, errW_none, errW_some] <;> rfl), by repeat (first | (with_reducible first | exact HB.out | apply below_alloc | apply pw_below_drewN | apply below_drew1) | exact HB.out)⟩
           · replace c19 := Bool.eq_false_iff.mpr c19
             subst c19
             have H1 : (some false) = some r := by rw [if_neg (show ¬ (false = true) by decide)] at H; exact H
             clear H
             have H := H1
             clear H1
             obtain rfl := Option.some.inj H
             go_enter Tryz.func4, Tryz.ntmps4
             go_wp2_with (first | ((with_reducible refine gate_callee (f := 6) rfl ?_); refine goesL_ (some 10) rfl rfl Tryz.func6 (by kernel_rfl) rfl #[.slice A0 l0.length c0] rfl (by (try simp only [List.map_toArray, List.map_cons, List.map_nil]); first | done | rfl | (simp only [List.length_drop, List.length_take]; rfl)) ?_; (with_reducible refine (laws_big.calls _ _ l0 false _ ?side1 ?side2 A2.out).mono ?_); (case side1 => repeat (first | exact HR0.out | (with_reducible refine Kd.C_alloc ?_ _) | (with_reducible refine Kd.C_drewN ?_ _) | (with_reducible refine Kd.C_drew ?_))); (case side2 => exact HC0.out); rintro e w' ⟨rfl, ⟨nd, rfl⟩⟩; refine ⟨_, rfl, ?_⟩) | ((with_reducible refine gate_callee (f := 10) rfl ?_); refine goesL_ (some 12) rfl rfl Tryz.func10 (by kernel_rfl) rfl #[.slice A0 l0.length c0] rfl (by (try simp only [List.map_toArray, List.map_cons, List.map_nil]); first | done | rfl | (simp only [List.length_drop, List.length_take]; rfl)) ?_; (with_reducible refine (spec_DrawDisassemble.calls k _ _ l0 t264 _ ?side1 ?side2 A4.out).mono ?_); (case side1 => repeat (first | exact HR0.out | (with_reducible refine Kd.C_alloc ?_ _) | (with_reducible refine Kd.C_drewN ?_ _) | (with_reducible refine Kd.C_drew ?_))); (case side2 => exact HC0.out); rintro e w28 ⟨v265, rfl, ho0, hb⟩; refine ⟨_, rfl, ?_⟩; have n0_ := Aside0.mk (Kd.R_lower ho0 (below_size (by repeat (first | (with_reducible first | exact HB.out | apply below_alloc | apply pw_below_drewN | apply below_drew1) | exact HB.out)))); have n1_ := Aside0.mk (below_step (by repeat (first | (with_reducible first | exact HB.out | apply below_alloc | apply pw_below_drewN | apply below_drew1) | exact HB.out)) hb); clear HB; have HO266 := n0_; have HB := n1_; clear n0_ n1_; (try clear hb); (try clear hb2); (try clear hk); (try clear hi); (try clear ho0); obtain ⟨Ao29, co29, eo29⟩ := Kd.R_slice HO266.out; subst eo29) | ((with_reducible refine gate_callee (f := 11) rfl ?_); refine goesL_ (some 15) rfl rfl Tryz.func11 (by kernel_rfl) rfl #[.slice Ao29 t264.length co29] rfl (by (try simp only [List.map_toArray, List.map_cons, List.map_nil]); first | done | rfl | (simp only [List.length_drop, List.length_take]; rfl)) ?_; (with_reducible refine (impl_Disassemble.calls _ _ t264 t267 true _ ?side1 ?side2 ?side3 A5.out).mono ?_); (case side1 => repeat (first | exact (Kd.R_reads' HO266.out).2.2 | (with_reducible refine Kd.C_alloc ?_ _) | (with_reducible refine Kd.C_drewN ?_ _) | (with_reducible refine Kd.C_drew ?_))); (case side2 => exact (Kd.R_reads' HO266.out).2.1); (case side3 => exact Tab.TabsODEM.below HTB.out (by repeat (first | (with_reducible first | exact HB.out | apply below_alloc | apply pw_below_drewN | apply below_drew1) | exact HB.out))); rintro e w30 ⟨rfl, hb⟩; refine ⟨_, rfl, ?_⟩; have n0_ := Aside0.mk (Kd.R_below (by (with_reducible repeat (first | apply Kd.R_alloc | apply Kd.R_drewN | apply Kd.R_drew)); exact HO266.out) hb); have n1_ := Aside0.mk (below_step (by repeat (first | (with_reducible first | exact HB.out | apply below_alloc | apply pw_below_drewN | apply below_drew1) | exact HB.out)) hb); clear HO266; clear HB; have HO266 := n0_; have HB := n1_; clear n0_ n1_; (try clear hb); (try clear hb2); (try clear hk); (try clear hi)) | ((with_reducible refine gate_callee (f := 9) rfl ?_); refine goesL_ (some 29) rfl rfl Tryz.func9 (by kernel_rfl) rfl #[.string t267] rfl (by (try simp only [List.map_toArray, List.map_cons, List.map_nil]); first | done | rfl | (simp only [List.length_drop, List.length_take]; rfl)) ?_; (with_reducible refine (impl_Assemble.calls t267 t269 t270 t271 _ ?side1 A14.out).mono ?_); (case side1 => exact Tab.TabsODEM.below HTB.out (by repeat (first | (with_reducible first | exact HB.out | apply below_alloc | apply pw_below_drewN | apply below_drew1) | exact HB.out))); rintro e w31 ⟨v272, rfl, ho0, hb⟩; refine ⟨_, rfl, ?_⟩; have n0_ := Aside0.mk (Kd.R_elder' (by (with_reducible repeat (first | apply Kd.R_alloc | apply Kd.R_drewN | apply Kd.R_drew)); exact HO266.out) (Kd.R_base ho0) hb); have n1_ := Aside0.mk (Kd.R_lower (Kd.R_new' ho0 (Kd.R_lt (by (with_reducible repeat (first | apply Kd.R_alloc | apply Kd.R_drewN | apply Kd.R_drew)); exact HO266.out))) (below_size (by repeat (first | (with_reducible first | exact HB.out | apply below_alloc | apply pw_below_drewN | apply below_drew1) | exact HB.out)))); have n2_ := Aside0.mk (below_step (by repeat (first | (with_reducible first | exact HB.out | apply below_alloc | apply pw_below_drewN | apply below_drew1) | exact HB.out)) hb); clear HO266; clear HB; have HO266 := n0_; have HO273 := n1_; have HB := n2_; clear n0_ n1_ n2_; (try clear hb); (try clear hb2); (try clear hk); (try clear hi); (try clear ho0); obtain ⟨Ao32, co32, eo32⟩ := Kd.R_slice HO273.out; subst eo32) | (go_at_call 12; (with_reducible refine (laws_sameWords.calls k _ _ t269 _ _ t264 false _ ?side1 ?side2 ?side3 ?side4 A18.out).mono ?_); (case side1 => repeat (first | exact (Kd.R_reads' HO273.out).2.2 | (with_reducible refine Kd.C_alloc ?_ _) | (with_reducible refine Kd.C_drewN ?_ _) | (with_reducible refine Kd.C_drew ?_))); (case side2 => exact (Kd.R_reads' HO273.out).2.1); (case side3 => repeat (first | exact (Kd.R_reads' HO266.out).2.2 | (with_reducible refine Kd.C_alloc ?_ _) | (with_reducible refine Kd.C_drewN ?_ _) | (with_reducible refine Kd.C_drew ?_))); (case side4 => exact (Kd.R_reads' HO266.out).2.1); rintro e w' ⟨rfl, ⟨nd, rfl⟩⟩))
             go_ret
             exact ⟨by first | rfl | (simp [errW_none, errW_some] <;> rfl) | (simp [*, errW_none, errW_some] <;> rfl), by repeat (first | (with_reducible first | exact HB.out | apply below_alloc | apply pw_below_drewN | apply below_drew1) | exact HB.out)⟩
         · rw [if_neg c17] at H
           have c17b0 : (t271 == 0) = false := beq_eq_false_iff_ne.mpr c17
           have c17b1 : (t271 != 0) = true := bne_iff_ne.mpr c17
           obtain rfl := Option.some.inj H
           go_enter Tryz.func4, Tryz.ntmps4
           go_wp2_with (first | ((with_reducible refine gate_callee (f := 6) rfl ?_); refine goesL_ (some 10) rfl rfl Tryz.func6 (by kernel_rfl) rfl #[.slice A0 l0.length c0] rfl (by (try simp only [List.map_toArray, List.map_cons, List.map_nil]); first | done | rfl | (simp only [List.length_drop, List.length_take]; rfl)) ?_; (with_reducible refine (laws_big.calls _ _ l0 false _ ?side1 ?side2 A2.out).mono ?_); (case side1 => repeat (first | exact HR0.out | (with_reducible refine Kd.C_alloc ?_ _) | (with_reducible refine Kd.C_drewN ?_ _) | (with_reducible refine Kd.C_drew ?_))); (case side2 => exact HC0.out); rintro e w' ⟨rfl, ⟨nd, rfl⟩⟩; refine ⟨_, rfl, ?_⟩) | ((with_reducible refine gate_callee (f := 10) rfl ?_); refine goesL_ (some 12) rfl rfl Tryz.func10 (by kernel_rfl) rfl #[.slice A0 l0.length c0] rfl (by (try simp only [List.map_toArray, List.map_cons, List.map_nil]); first | done | rfl | (simp only [List.length_drop, List.length_take]; rfl)) ?_; (with_reducible refine (spec_DrawDisassemble.calls k _ _ l0 t264 _ ?side1 ?side2 A4.out).mono ?_); (case side1 => repeat (first | exact HR0.out | (with_reducible refine Kd.C_alloc ?_ _) | (with_reducible refine Kd.C_drewN ?_ _) | (with_reducible refine Kd.C_drew ?_))); (case side2 => exact HC0.out); rintro e w33 ⟨v265, rfl, ho0, hb⟩; refine ⟨_, rfl, ?_⟩; have n0_ := Aside0.mk (Kd.R_lower ho0 (below_size (by repeat (first | (with_reducible first | exact HB.out | apply below_alloc | apply pw_below_drewN | apply below_drew1) | exact HB.out)))); have n1_ := Aside0.mk (below_step (by repeat (first | (with_reducible first | exact HB.out | apply below_alloc | apply pw_below_drewN | apply below_drew1) | exact HB.out)) hb); clear HB; have HO266 := n0_; have HB := n1_; clear n0_ n1_; (try clear hb); (try clear hb2); (try clear hk); (try clear hi); (try clear ho0); obtain ⟨Ao34, co34, eo34⟩ := Kd.R_slice HO266.out; subst eo34) | ((with_reducible refine gate_callee (f := 11) rfl ?_); refine goesL_ (some 15) rfl rfl Tryz.func11 (by kernel_rfl) rfl #[.slice Ao34 t264.length co34] rfl (by (try simp only [List.map_toArray, List.map_cons, List.map_nil]); first | done | rfl | (simp only [List.length_drop, List.length_take]; rfl)) ?_; (with_reducible refine (impl_Disassemble.calls _ _ t264 t267 true _ ?side1 ?side2 ?side3 A5.out).mono ?_); (case side1 => repeat (first | exact (Kd.R_reads' HO266.out).2.2 | (with_reducible refine Kd.C_alloc ?_ _) | (with_reducible refine Kd.C_drewN ?_ _) | (with_reducible refine Kd.C_drew ?_))); (case side2 => exact (Kd.R_reads' HO266.out).2.1); (case side3 => exact Tab.TabsODEM.below HTB.out (by repeat (first | (with_reducible first | exact HB.out | apply below_alloc | apply pw_below_drewN | apply below_drew1) | exact HB.out))); rintro e w35 ⟨rfl, hb⟩; refine ⟨_, rfl, ?_⟩; have n0_ := Aside0.mk (Kd.R_below (by (with_reducible repeat (first | apply Kd.R_alloc | apply Kd.R_drewN | apply Kd.R_drew)); exact HO266.out) hb); have n1_ := Aside0.mk (below_step (by repeat (first | (with_reducible first | exact HB.out | apply below_alloc | apply pw_below_drewN | apply below_drew1) | exact HB.out)) hb); clear HO266; clear HB; have HO266 := n0_; have HB := n1_; clear n0_ n1_; (try clear hb); (try clear hb2); (try clear hk); (try clear hi)) | ((with_reducible refine gate_callee (f := 9) rfl ?_); refine goesL_ (some 29) rfl rfl Tryz.func9 (by kernel_rfl) rfl #[.string t267] rfl (by (try simp only [List.map_toArray, List.map_cons, List.map_nil]); first | done | rfl | (simp only [List.length_drop, List.length_take]; rfl)) ?_; (with_reducible refine (impl_Assemble.calls t267 t269 t270 t271 _ ?side1 A14.out).mono ?_); (case side1 => exact Tab.TabsODEM.below HTB.out (by repeat (first | (with_reducible first | exact HB.out | apply below_alloc | apply pw_below_drewN | apply below_drew1) | exact HB.out))); rintro e w36 ⟨v272, rfl, ho0, hb⟩; refine ⟨_, rfl, ?_⟩; have n0_ := Aside0.mk (Kd.R_elder' (by (with_reducible repeat (first | apply Kd.R_alloc | apply Kd.R_drewN | apply Kd.R_drew)); exact HO266.out) (Kd.R_base ho0) hb); have n1_ := Aside0.mk (Kd.R_lower (Kd.R_new' ho0 (Kd.R_lt (by (with_reducible repeat (first | apply Kd.R_alloc | apply Kd.R_drewN | apply Kd.R_drew)); exact HO266.out))) (below_size (by repeat (first | (with_reducible first | exact HB.out | apply below_alloc | apply pw_below_drewN | apply below_drew1) | exact HB.out)))); have n2_ := Aside0.mk (below_step (by repeat (first | (with_reducible first | exact HB.out | apply below_alloc | apply pw_below_drewN | apply below_drew1) | exact HB.out)) hb); clear HO266; clear HB; have HO266 := n0_; have HO273 := n1_; have HB := n2_; clear n0_ n1_ n2_; (try clear hb); (try clear hb2); (try clear hk); (try clear hi); (try clear ho0)))
           go_ret
           exact ⟨by first | rfl | (simp [errW_none, errW_some] <;> rfl) | (simp [*, errW_none, errW_some] <;> rfl), by repeat (first | (with_reducible first | exact HB.out | apply below_alloc | apply pw_below_drewN | apply below_drew1) | exact HB.out)⟩
       · rw [if_neg c16] at H
         have c16b0 : (t270 == 0) = false := beq_eq_false_iff_ne.mpr c16
         have c16b1 : (t270 != 0) = true := bne_iff_ne.mpr c16
         obtain rfl := Option.some.inj H
         go_enter Tryz.func4, Tryz.ntmps4
         go_wp2_with (first | ((with_reducible refine gate_callee (f := 6) rfl ?_); refine goesL_ (some 10) rfl rfl Tryz.func6 (by kernel_rfl) rfl #[.slice A0 l0.length c0] rfl (by (try simp only [List.map_toArray, List.map_cons, List.map_nil]); first | done | rfl | (simp only [List.length_drop, List.length_take]; rfl)) ?_; (with_reducible refine (laws_big.calls _ _ l0 false _ ?side1 ?side2 A2.out).mono ?_); (case side1 => repeat (first | exact HR0.out | (with_reducible refine Kd.C_alloc ?_ _) | (with_reducible refine Kd.C_drewN ?_ _) | (with_reducible refine Kd.C_drew ?_))); (case side2 => exact HC0.out); rintro e w' ⟨rfl, ⟨nd, rfl⟩⟩; refine ⟨_, rfl, ?_⟩) | ((with_reducible refine gate_callee (f := 10) rfl ?_); refine goesL_ (some 12) rfl rfl Tryz.func10 (by kernel_rfl) rfl #[.slice A0 l0.length c0] rfl (by (try simp only [List.map_toArray, List.map_cons, List.map_nil]); first | done | rfl | (simp only [List.length_drop, List.length_take]; rfl)) ?_; (with_reducible refine (spec_DrawDisassemble.calls k _ _ l0 t264 _ ?side1 ?side2 A4.out).mono ?_); (case side1 => repeat (first | exact HR0.out | (with_reducible refine Kd.C_alloc ?_ _) | (with_reducible refine Kd.C_drewN ?_ _) | (with_reducible refine Kd.C_drew ?_))); (case side2 => exact HC0.out); rintro e w37 ⟨v265, rfl, ho0, hb⟩; refine ⟨_, rfl, ?_⟩; have n0_ := Aside0.mk (Kd.R_lower ho0 (below_size (by repeat (first | (with_reducible first | exact HB.out | apply below_alloc | apply pw_below_drewN | apply below_drew1) | exact HB.out)))); have n1_ := Aside0.mk (below_step (by repeat (first | (with_reducible first | exact HB.out | apply below_alloc | apply pw_below_drewN | apply below_drew1) | exact HB.out)) hb); clear HB; have HO266 := n0_; have HB := n1_; clear n0_ n1_; (try clear hb); (try clear hb2); (try clear hk); (try clear hi); (try clear ho0); obtain ⟨Ao38, co38, eo38⟩ := Kd.R_slice HO266.out; subst eo38) | ((with_reducible refine gate_callee (f := 11) rfl ?_); refine goesL_ (some 15) rfl rfl Tryz.func11 (by kernel_rfl) rfl #[.slice Ao38 t264.length co38] rfl (by (try simp only [List.map_toArray, List.map_cons, List.map_nil]); first | done | rfl | (simp only [List.length_drop, List.length_take]; rfl)) ?_; (with_reducible refine (impl_Disassemble.calls _ _ t264 t267 true _ ?side1 ?side2 ?side3 A5.out).mono ?_); (case side1 => repeat (first | exact (Kd.R_reads' HO266.out).2.2 | (with_reducible refine Kd.C_alloc ?_ _) | (with_reducible refine Kd.C_drewN ?_ _) | (with_reducible refine Kd.C_drew ?_))); (case side2 => exact (Kd.R_reads' HO266.out).2.1); (case side3 => exact Tab.TabsODEM.below HTB.out (by repeat (first | (with_reducible first | exact HB.out | apply below_alloc | apply pw_below_drewN | apply below_drew1) | exact HB.out))); rintro e w39 ⟨rfl, hb⟩; refine ⟨_, rfl, ?_⟩; have n0_ := Aside0.mk (Kd.R_below (by (with_reducible repeat (first | apply Kd.R_alloc | apply Kd.R_drewN | apply Kd.R_drew)); exact HO266.out) hb); have n1_ := Aside0.mk (below_step (by repeat (first | (with_reducible first | exact HB.out | apply below_alloc | apply pw_below_drewN | apply below_drew1) | exact HB.out)) hb); clear HO266; clear HB; have HO266 := n0_; have HB := n1_; clear n0_ n1_; (try clear hb); (try clear hb2); (try clear hk); (try clear hi)) | ((with_reducible refine gate_callee (f := 9) rfl ?_); refine goesL_ (some 29) rfl rfl Tryz.func9 (by kernel_rfl) rfl #[.string t267] rfl (by (try simp only [List.map_toArray, List.map_cons, List.map_nil]); first | done | rfl | (simp only [List.length_drop, List.length_take]; rfl)) ?_; (with_reducible refine (impl_Assemble.calls t267 t269 t270 t271 _ ?side1 A14.out).mono ?_); (case side1 => exact Tab.TabsODEM.below HTB.out (by repeat (first | (with_reducible first | exact HB.out | apply below_alloc | apply pw_below_drewN | apply below_drew1) | exact HB.out))); rintro e w40 ⟨v272, rfl, ho0, hb⟩; refine ⟨_, rfl, ?_⟩; have n0_ := Aside0.mk (Kd.R_elder' (by (with_reducible repeat (first | apply Kd.R_alloc | apply Kd.R_drewN | apply Kd.R_drew)); exact HO266.out) (Kd.R_base ho0) hb); have n1_ := Aside0.mk (Kd.R_lower (Kd.R_new' ho0 (Kd.R_lt (by (with_reducible repeat (first | apply Kd.R_alloc | apply Kd.R_drewN | apply Kd.R_drew)); exact HO266.out))) (below_size (by repeat (first | (with_reducible first | exact HB.out | apply below_alloc | apply pw_below_drewN | apply below_drew1) | exact HB.out)))); have n2_ := Aside0.mk (below_step (by repeat (first | (with_reducible first | exact HB.out | apply below_alloc | apply pw_below_drewN | apply below_drew1) | exact HB.out)) hb); clear HO266; clear HB; have HO266 := n0_; have HO273 := n1_; have HB := n2_; clear n0_ n1_ n2_; (try clear hb); (try clear hb2); (try clear hk); (try clear hi); (try clear ho0)))
         go_ret
         exact ⟨by first | rfl | (simp [errW_none, errW_some] <;> rfl) | (simp [*, errW_none, errW_some] <;> rfl), by repeat (first | (with_reducible first | exact HB.out | apply below_alloc | apply pw_below_drewN | apply below_drew1) | exact HB.out)⟩
     · replace c15 := Bool.eq_false_iff.mpr c15
       subst c15
       have H1 : (some false) = some r := by rw [if_neg (show ¬ (false = true) by decide)] at H; exact H
       clear H
       have H := H1
       clear H1
       obtain rfl := Option.some.inj H
       go_enter Tryz.func4, Tryz.ntmps4
       go_wp2_with (first | ((with_reducible refine gate_callee (f := 6) rfl ?_); refine goesL_ (some 10) rfl rfl Tryz.func6 (by kernel_rfl) rfl #[.slice A0 l0.length c0] rfl (by (try simp only [List.map_toArray, List.map_cons, List.map_nil]); first | done | rfl | (simp only [List.length_drop, List.length_take]; rfl)) ?_; (with_reducible refine (laws_big.calls _ _ l0 false _ ?side1 ?side2 A2.out).mono ?_); (case side1 => repeat (first | exact HR0.out | (with_reducible refine Kd.C_alloc ?_ _) | (with_reducible refine Kd.C_drewN ?_ _) | (with_reducible refine Kd.C_drew ?_))); (case side2 => exact HC0.out); rintro e w' ⟨rfl, ⟨nd, rfl⟩⟩; refine ⟨_, rfl, ?_⟩) | ((with_reducible refine gate_callee (f := 10) rfl ?_); refine goesL_ (some 12) rfl rfl Tryz.func10 (by kernel_rfl) rfl #[.slice A0 l0.length c0] rfl (by (try simp only [List.map_toArray, List.map_cons, List.map_nil]); first | done | rfl | (simp only [List.length_drop, List.length_take]; rfl)) ?_; (with_reducible refine (spec_DrawDisassemble.calls k _ _ l0 t264 _ ?side1 ?side2 A4.out).mono ?_); (case side1 => repeat (first | exact HR0.out | (with_reducible refine Kd.C_alloc ?_ _) | (with_reducible refine Kd.C_drewN ?_ _) | (with_reducible refine Kd.C_drew ?_))); (case side2 => exact HC0.out); rintro e w41 ⟨v265, rfl, ho0, hb⟩; refine ⟨_, rfl, ?_⟩; have n0_ := Aside0.mk (Kd.R_lower ho0 (below_size (by repeat (first | (with_reducible first | exact HB.out | apply below_alloc | apply pw_below_drewN | apply below_drew1) | exact HB.out)))); have n1_ := Aside0.mk (below_step (by repeat (first | (with_reducible first | exact HB.out | apply below_alloc | apply pw_below_drewN | apply below_drew1) | exact HB.out)) hb); clear HB; have HO266 := n0_; have HB := n1_; clear n0_ n1_; (try clear hb); (try clear hb2); (try clear hk); (try clear hi); (try clear ho0); obtain ⟨Ao42, co42, eo42⟩ := Kd.R_slice HO266.out; subst eo42) | ((with_reducible refine gate_callee (f := 11) rfl ?_); refine goesL_ (some 15) rfl rfl Tryz.func11 (by kernel_rfl) rfl #[.slice Ao42 t264.length co42] rfl (by (try simp only [List.map_toArray, List.map_cons, List.map_nil]); first | done | rfl | (simp only [List.length_drop, List.length_take]; rfl)) ?_; (with_reducible refine (impl_Disassemble.calls _ _ t264 t267 false _ ?side1 ?side2 ?side3 A5.out).mono ?_); (case side1 => repeat (first | exact (Kd.R_reads' HO266.out).2.2 | (with_reducible refine Kd.C_alloc ?_ _) | (with_reducible refine Kd.C_drewN ?_ _) | (with_reducible refine Kd.C_drew ?_))); (case side2 => exact (Kd.R_reads' HO266.out).2.1); (case side3 => exact Tab.TabsODEM.below HTB.out (by repeat (first | (with_reducible first | exact HB.out | apply below_alloc | apply pw_below_drewN | apply below_drew1) | exact HB.out))); rintro e w43 ⟨rfl, hb⟩; refine ⟨_, rfl, ?_⟩; have n0_ := Aside0.mk (Kd.R_below (by (with_reducible repeat (first | apply Kd.R_alloc | apply Kd.R_drewN | apply Kd.R_drew)); exact HO266.out) hb); have n1_ := Aside0.mk (below_step (by repeat (first | (with_reducible first | exact HB.out | apply below_alloc | apply pw_below_drewN | apply below_drew1) | exact HB.out)) hb); clear HO266; clear HB; have HO266 := n0_; have HB := n1_; clear n0_ n1_; (try clear hb); (try clear hb2); (try clear hk); (try clear hi)) | ((with_reducible refine gate_callee (f := 9) rfl ?_); refine goesL_ (some 29) rfl rfl Tryz.func9 (by kernel_rfl) rfl #[.string t267] rfl (by (try simp only [List.map_toArray, List.map_cons, List.map_nil]); first | done | rfl | (simp only [List.length_drop, List.length_take]; rfl)) ?_; (with_reducible refine (impl_Assemble.calls t267 t269 t270 t271 _ ?side1 A14.out).mono ?_); (case side1 => exact Tab.TabsODEM.below HTB.out (by repeat (first | (with_reducible first | exact HB.out | apply below_alloc | apply pw_below_drewN | apply below_drew1) | exact HB.out))); rintro e w44 ⟨v272, rfl, ho0, hb⟩; refine ⟨_, rfl, ?_⟩; have n0_ := Aside0.mk (Kd.R_elder' (by (with_reducible repeat (first | apply Kd.R_alloc | apply Kd.R_drewN | apply Kd.R_drew)); exact HO266.out) (Kd.R_base ho0) hb); have n1_ := Aside0.mk (Kd.R_lower (Kd.R_new' ho0 (Kd.R_lt (by (with_reducible repeat (first | apply Kd.R_alloc | apply Kd.R_drewN | apply Kd.R_drew)); exact HO266.out))) (below_size (by repeat (first | (with_reducible first | exact HB.out | apply below_alloc | apply pw_below_drewN | apply below_drew1) | exact HB.out)))); have n2_ := Aside0.mk (below_step (by repeat (first | (with_reducible first | exact HB.out | apply below_alloc | apply pw_below_drewN | apply below_drew1) | exact HB.out)) hb); clear HO266; clear HB; have HO266 := n0_; have HO273 := n1_; have HB := n2_; clear n0_ n1_ n2_; (try clear hb); (try clear hb2); (try clear hk); (try clear hi); (try clear ho0)))
       go_ret
       exact ⟨by first | rfl | (simp [errW_none, errW_some] <;> rfl) | (simp [*, errW_none, errW_some] <;> rfl), by repeat (first | (with_reducible first | exact HB.out | apply below_alloc | apply pw_below_drewN | apply below_drew1) | exact HB.out)⟩

/-- THE ONE PURE STATEMENT of laws_FnAssemble: yours. -/
def laws_FnAssemble.Pure : Prop := ∀ (l0 : List Int), l0.length ≤ maxLen → l0.length * 1 ≤ 140737488351232 → (∀ x ∈ l0, (Lit.int .u8 x).wf = true) → ∃ k, laws_FnAssemble.f k l0 = some true
theorem laws_FnAssemble.walk (P : laws_FnAssemble.Pure) (a0 : Option Addr) (len0 cap0 : Nat) (z0 : List Int) (w : World) (w0 : (a0 = none ∧ len0 = 0 ∧ cap0 = 0 ∧ z0 = []) ∨ ∃ x, a0 = some x ∧ len0 ≤ cap0 ∧ cap0 ≤ maxLen ∧ z0.length = cap0 ∧ (∀ i, i < z0.length → w.cell? (x.add i) = some (.int .u8 (z0.getD i 0))) ∧ ∀ n ∈ z0, (Lit.int .u8 n).wf = true) (y0 : len0 * 1 ≤ 140737488351232) (ht : Tab.TabsODEM w) :
 Calls Tryz.prog 4 #[.slice a0 len0 cap0] w fun e w' => e = .returned (.bool true) ∧ Below w.heap.size w w' := by
 obtain ⟨l0, rfl, hr0, hm0, hw0, hc0⟩ := ReadsInt.ofRowC w0
 obtain ⟨k, h⟩ := P l0 hm0 y0 hw0
 refine (laws_FnAssemble.calls k _ _ l0 true w (Kd.C_of_reads (d := (0 : Int)) (h1 := fun _ => rfl) hr0) hc0 ht h).mono ?_
 rintro e w' ⟨rfl, hd⟩
 exact ⟨rfl, hd⟩

end Go.Proofs.YtaophlekfepkgaaGreatDoor.PFnAssemble

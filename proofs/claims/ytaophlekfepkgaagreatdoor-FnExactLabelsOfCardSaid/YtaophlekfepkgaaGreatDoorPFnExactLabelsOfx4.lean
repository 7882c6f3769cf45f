/- Printed by a program out of the translation, with contracts of my own set in. -/
import Derived.Test.YtaophlekfepkgaaGreatDoorPFnExactLabelsOfx0
import Derived.Test.YtaophlekfepkgaaGreatDoorPFnExactLabelsOfx2
import Derived.Test.YtaophlekfepkgaaGreatDoorPFnExactLabelsOfx3
namespace Go.Proofs.YtaophlekfepkgaaGreatDoor.PFnExactLabelsOf
open Go.RowKit Go.Proofs.YtaophlekfepkgaaGreatDoorW.PrintWords Go.Proofs.YtaophlekfepkgaaGreatDoorW.PrintLast Go.Proofs.YtaophlekfepkgaaGreatDoorW.PrintMore
attribute [local go_sem] max2_int min2_int max_two min_two max_three min_three max_four min_four   -- for this text's walks alone
set_option linter.unusedVariables false
set_option linter.unusedSimpArgs false

/-! ### impl_LabelsOf: function 13 -/
instance impl_LabelsOf.inh : Inhabited S67 := ⟨z67⟩
/-- A label's two cells; how two compare. -/
def impl_LabelsOf.enc (x : S67) : List Value := [.string x.f0, .int .i64 x.f1]
def impl_LabelsOf.cf (x y : S67) : Int := Lib.compareBytes x.f0.data.toList y.f0.data.toList
def impl_LabelsOf.sorted (l : List S67) : List S67 := if l = [] then [] else (Go.Sort.pdq (ltOf impl_LabelsOf.cf) l.toArray 0 l.length (Lib.bitLen l.length) true true).toList
/-- The labels of the lines: so many words stand ahead. -/
def impl_LabelsOf.labs : List ByteArray → Nat → List S67 → Option (List S67)
 | [], _, acc => some acc
 | x :: t, n, acc => (impl_readLine.f x).bind fun r => if r.1 = 1 then impl_LabelsOf.labs t n (acc ++ [⟨r.2.2.2.2.2.2.2, (n : Int)⟩]) else impl_LabelsOf.labs t (n + 1) acc
def impl_LabelsOf.f (a0 : ByteArray) : Option (List S67) := (impl_assemble.f a0).bind fun q => if q.2.1 = 0 then ((impl_LabelsOf.labs (impl_assemble.lines a0) 0 []).bind fun l => some (impl_LabelsOf.sorted l)) else some []
theorem impl_LabelsOf.cmp_lt : ∀ a b : List UInt8, Lib.compareBytes a b < 0 ↔ a < b
 | [], [] => by simp [Lib.compareBytes]
 | [], _ :: _ => by simp [Lib.compareBytes]
 | _ :: _, [] => by simp [Lib.compareBytes]
 | x :: a, y :: b => by
  have ih := impl_LabelsOf.cmp_lt a b
  simp only [Lib.compareBytes, List.cons_lt_cons_iff]
  by_cases h1 : x < y
  · simp [h1]
  · by_cases h2 : y < x
    · simp only [h1, h2, if_true, if_false, false_or]
      constructor
      · intro h; omega
      · rintro ⟨rfl, _⟩; exact absurd h2 h1
    · have e : x = y := UInt8.le_antisymm (UInt8.not_lt.1 h2) (UInt8.not_lt.1 h1)
      subst e
      simp [ih]
theorem impl_LabelsOf.lt_is (x y : S67) : ltOf impl_LabelsOf.cf x y = decide (x.f0.data.toList < y.f0.data.toList) := by
 unfold ltOf impl_LabelsOf.cf
 rw [decide_eq_decide]
 exact impl_LabelsOf.cmp_lt _ _
theorem impl_LabelsOf.swo : Go.Sort.SWO (ltOf impl_LabelsOf.cf) where
 irrefl x := by rw [impl_LabelsOf.lt_is]; simp
 trans x y z h1 h2 := by
  rw [impl_LabelsOf.lt_is] at *
  simp only [decide_eq_true_eq] at *
  exact List.lt_trans h1 h2
 ntrans x y z h1 h2 := by
  rw [impl_LabelsOf.lt_is] at *
  simp only [decide_eq_false_iff_not, List.not_lt] at *
  exact List.le_trans h2 h1
set_option maxHeartbeats 1000000 in
theorem impl_LabelsOf.closure (x y : S67) (W : World) : Calls Tryz.prog 34 #[.agg #[.string x.f0, .int .i64 x.f1], .agg #[.string y.f0, .int .i64 y.f1]] W fun e w' => e = .returned (.int .i64 (impl_LabelsOf.cf x y)) ∧ ∃ q os', w' = Go.Sort.grow (W.drewN q) os' := by
 have hcon := fun W' => Tryz.strings_Compare x.f0 y.f0 W'
 unfold impl_LabelsOf.cf
 generalize Lib.compareBytes x.f0.data.toList y.f0.data.toList = r at hcon ⊢
 go_enter Tryz.func34, Tryz.ntmps34
 go_wp2_with (go_at_call 35; refine (hcon _).mono ?_; rintro e w' ⟨rfl, rfl⟩)
 go_ret
 exact ⟨rfl, 0, _, by rw [Go.Sort.alloc_eq_grow, Go.Sort.alloc_eq_grow, Go.Sort.grow_grow]; rfl⟩
theorem impl_LabelsOf.flat (l : List S67) (i : Nat) (h : i < l.length) : (Go.Sort.flatK impl_LabelsOf.enc 2 l.toArray)[2 * i]? = some (.string l[i].f0) ∧ (Go.Sort.flatK impl_LabelsOf.enc 2 l.toArray)[2 * i + 1]? = some (.int .i64 l[i].f1) := by
 have hs : (Go.Sort.flatK impl_LabelsOf.enc 2 l.toArray).size = l.length * 2 := by simp
 have g : ∀ c (hc : c < 2), (Go.Sort.flatK impl_LabelsOf.enc 2 l.toArray)[2 * i + c]? = (impl_LabelsOf.enc l[i])[c]? := by
  intro c hc
  have h1 := Go.Sort.get_flatK impl_LabelsOf.enc 2 l.toArray (2 * i + c) (by simp; omega)
  rw [show (2 * i + c) / 2 = i by omega, show (2 * i + c) % 2 = c by omega] at h1
  rw [getElem!_pos _ _ (by omega)] at h1
  rw [Array.getElem?_eq_getElem (by omega), h1]
  have h2 : l.toArray[i]! = l[i] := by simp [h]
  rw [h2]
  have : c < (impl_LabelsOf.enc l[i]).length := hc
  rw [List.getElem?_eq_getElem this, getElem!_pos (impl_LabelsOf.enc l[i]) c this]
 exact ⟨by have := g 0 (by omega); simpa [impl_LabelsOf.enc] using this, by have := g 1 (by omega); simpa [impl_LabelsOf.enc] using this⟩
theorem impl_LabelsOf.holds {W : World} {base b c : Nat} {l : List S67} (h : Kd.R k67 67 W base (fun _ => True) (.slice (some ⟨b, 0, none⟩) l.length c) l) : Go.Sort.HoldsK impl_LabelsOf.enc 2 W b 0 l.toArray := by
 intro j hj
 have hj : j < l.length * 2 := by simpa using hj
 have hsz : (Go.Sort.flatK impl_LabelsOf.enc 2 l.toArray).size = l.length * 2 := by simp
 obtain ⟨inner, ho⟩ := Kd.R_own h
 obtain ⟨cells, hb⟩ := own_typed ho b rfl
 refine ⟨?_, blk_frozen hb _⟩
 obtain ⟨ad, e, h0, h1⟩ := at_T67 (Kd.R_reads' h).2.2 ((j / 2 : Nat) : Int) (by omega) (by omega)
 injection e with e
 subst e
 have hi : j / 2 < l.length := by omega
 have hr : rd_T67 l ((j / 2 : Nat) : Int) = l[j / 2] := by unfold rd_T67; rw [Int.toNat_natCast]; simp [List.getD, hi]
 rw [hr, Int.toNat_natCast] at h0 h1
 obtain ⟨f0, f1⟩ := impl_LabelsOf.flat l (j / 2) hi
 have hget : some (Go.Sort.flatK impl_LabelsOf.enc 2 l.toArray)[j]! = (Go.Sort.flatK impl_LabelsOf.enc 2 l.toArray)[j]? := by rw [getElem!_pos _ _ (by omega), Array.getElem?_eq_getElem (by omega)]
 show W.cell? ⟨b, 0 + j, none⟩ = some (Go.Sort.flatK impl_LabelsOf.enc 2 l.toArray)[j]!
 rw [hget]
 have ea : (⟨b, 0, none⟩ : Addr).add (j / 2 * 2) = ⟨b, j / 2 * 2, none⟩ := add_plain _ _
 rw [ea] at h0 h1
 rcases Nat.mod_two_eq_zero_or_one j with hm | hm
 · rw [show 2 * (j / 2) = j by omega] at f0
   rw [f0, show 0 + j = j / 2 * 2 by omega]; exact h0
 · have h1 : W.cell? ⟨b, j / 2 * 2 + 1, none⟩ = some (.int .i64 l[j / 2].f1) := h1
   rw [show 2 * (j / 2) + 1 = j by omega] at f1
   rw [f1, show 0 + j = j / 2 * 2 + 1 by omega]; exact h1
theorem impl_LabelsOf.put {w0 W : World} {base b c n : Nat} {os : Array Obj} {l d : List S67} (h : Kd.R k67 67 W base (fun _ => True) (.slice (some ⟨b, 0, none⟩) l.length c) l) (hl : d.length = l.length) (HB : Below base w0 W) (hbase : base ≤ W.heap.size) :
 Kd.R k67 67 (sortWorldK impl_LabelsOf.enc 2 W b 0 n d.toArray os) base (fun _ => True) (.slice (some ⟨b, 0, none⟩) l.length c) d ∧ Below base w0 (sortWorldK impl_LabelsOf.enc 2 W b 0 n d.toArray os) := by
 obtain ⟨_, inner, ⟨hil, ho⟩, hrep⟩ := h
 rcases ho with ⟨h0, _⟩ | ⟨g, cap, cur, he, hg, hb, hn, hcap, hcs, htk⟩
 · injection h0 with h0; exact absurd h0 (by simp)
 injection he with e1 e2 e3
 injection e1 with e1
 injection e1 with e1 _ _
 subst e1
 subst e3
 have hcs : cur.size = c * 2 := hcs
 have hblt : b < W.heap.size := (Array.getElem?_eq_some_iff.1 hb).1
 have hF : (Go.Sort.flatK impl_LabelsOf.enc 2 d.toArray).size = d.length * 2 := by simp
 have hb1 : (sortWorldK impl_LabelsOf.enc 2 W b 0 n d.toArray os).heap[b]? = some (.cells (Go.Sort.putCells id 0 (Go.Sort.flatK impl_LabelsOf.enc 2 d.toArray) cur) 67 (0, 0)) := by
  unfold sortWorldK Go.Sort.putRowK
  rw [Go.Sort.heap_grow_old _ _ (by simpa [Go.Sort.putRow, Go.Sort.mapBlock, Go.Sort.ahead] using hblt)]
  simp [Go.Sort.putRow, Go.Sort.mapBlock, Go.Sort.ahead, Array.getElem?_modify, hb, Go.Sort.onCells]
 have hgr : W.grownBy (sortWorldK impl_LabelsOf.enc 2 W b 0 n d.toArray os) (some b) := by
  unfold sortWorldK Go.Sort.putRowK
  refine ⟨rfl, rfl, rfl, by simp [Go.Sort.grow, Go.Sort.putRow, Go.Sort.mapBlock, Go.Sort.ahead], fun k hk hne => ?_⟩
  rw [Go.Sort.heap_grow_old _ _ (by simpa [Go.Sort.putRow, Go.Sort.mapBlock, Go.Sort.ahead] using hk)]
  have : b ≠ k := fun e => hne (by rw [e])
  simp [Go.Sort.putRow, Go.Sort.mapBlock, Go.Sort.ahead, Array.getElem?_modify, this]
 refine ⟨⟨fun _ _ => trivial, (Go.Sort.flatK impl_LabelsOf.enc 2 d.toArray).toList, ⟨by rw [Array.length_toList, hF]; rfl, .inr ⟨b, c, _, by rw [hl], hg, hb1, by omega, hcap, by show (Go.Sort.putCells id 0 (Go.Sort.flatK impl_LabelsOf.enc 2 d.toArray) cur).size = c * 2; rw [← hcs]; simp [Go.Sort.putCells], ?_⟩⟩, ?_⟩, HB.grown hgr hbase (fun j hj => by cases hj; exact hg)⟩
 · show (Go.Sort.putCells id 0 (Go.Sort.flatK impl_LabelsOf.enc 2 d.toArray) cur).toList.take (d.length * 2) = _
   rw [← hF]
   apply List.ext_getElem?
   intro j
   by_cases hj : j < (Go.Sort.flatK impl_LabelsOf.enc 2 d.toArray).size
   · rw [List.getElem?_take_of_lt hj, Array.getElem?_toList, Array.getElem?_toList]
     have hjc : j < cur.size := by omega
     simp only [Go.Sort.putCells, Array.getElem?_mapIdx, Array.getElem?_eq_getElem hjc, Option.map_some]
     rw [if_pos ⟨Nat.zero_le _, by omega⟩, Nat.sub_zero, Array.getElem?_eq_getElem hj, getElem!_pos (Go.Sort.flatK impl_LabelsOf.enc 2 d.toArray) j hj]; rfl
   · rw [List.getElem?_take_eq_none (by omega), List.getElem?_eq_none (by rw [Array.length_toList]; omega)]
 · refine ⟨by rw [Array.length_toList, hF]; rfl, fun j p hp => ?_⟩
   obtain ⟨hj, rfl⟩ := List.getElem?_eq_some_iff.1 hp
   obtain ⟨f0, f1⟩ := impl_LabelsOf.flat d j hj
   have : ((Go.Sort.flatK impl_LabelsOf.enc 2 d.toArray).toList.drop (j * 2)).take 2 = [.string d[j].f0, .int .i64 d[j].f1] := by
    apply List.ext_getElem?
    intro i
    rcases i with _ | _ | i
    · rw [List.getElem?_take_of_lt (by omega), List.getElem?_drop, Array.getElem?_toList, show j * 2 + 0 = 2 * j by omega, f0]; rfl
    · rw [List.getElem?_take_of_lt (by omega), List.getElem?_drop, Array.getElem?_toList, show j * 2 + (0 + 1) = 2 * j + 1 by omega, f1]; rfl
    · rw [List.getElem?_take_eq_none (by omega)]; rfl
   show k67.M _ _ _ _ (((Go.Sort.flatK impl_LabelsOf.enc 2 d.toArray).toList.drop (j * 2)).take 2)
   rw [this]
   exact k67_mkM _ _ _ _
--PART2--
set_option maxRecDepth 100000 in
/-- slices.SortFunc over the labels. -/
theorem impl_LabelsOf.sort {w0 W : World} {v : Value} {A : Option Addr} {c : Nat} (l : List S67) (hl : l.length ≤ 1000000) (h : Kd.R k67 67 W w0.heap.size (fun _ => True) (.slice A l.length c) l) (HB : Below w0.heap.size w0 W) :
 Calls Tryz.prog 33 #[.slice A l.length c, .func (.func 34) #[] #[]] W fun e w' => e = .returned (.tuple #[]) ∧ Kd.R k67 67 w' w0.heap.size (fun _ => True) (.slice A l.length c) (impl_LabelsOf.sorted l) ∧ Below w0.heap.size w0 w' := by
 unfold impl_LabelsOf.sorted
 by_cases h0 : l = []
 · subst h0
   rw [if_pos rfl]
   refine (AnyF.slices_SortFunc_none Tryz.sortLabel A c (.func (.func 34) #[] #[]) W).mono ?_
   rintro e w' ⟨rfl, rfl⟩
   exact ⟨rfl, h, HB⟩
 · rw [if_neg h0]
   have hpos : 0 < l.length := List.length_pos_iff.2 h0
   obtain ⟨b, rfl⟩ := impl_assemble.addr h hpos
   obtain ⟨inner, ho⟩ := Kd.R_own h
   obtain ⟨cells, hb⟩ := own_typed ho b rfl
   have eg : ∀ args w, (callFunc 34 args).run Tryz.prog w = .ok (.enter 34 args) w := enters_of Tryz.func34 (by kernel_rfl) rfl
   have hcon := AnyQ.slices_SortFunc_eq Tryz.sortLabel 2 Tryz.isAgg67 Tryz.sizeOf67 impl_LabelsOf.enc (fun _ => rfl) (fun x v hv => by simp [impl_LabelsOf.enc] at hv; rcases hv with rfl | rfl <;> rfl) impl_LabelsOf.cf impl_LabelsOf.swo 34 #[] b 0 c l.toArray W eg (fun _ _ _ _ x y => impl_LabelsOf.closure x y _) (impl_LabelsOf.holds h) (blk_lt hb) (by simp; omega)
   have hp := Go.Sort.pdq_sorts (ltOf impl_LabelsOf.cf) impl_LabelsOf.swo l.toArray 0 l.toArray.size (Lib.bitLen l.toArray.size) true true (Nat.zero_le _) (Nat.le_refl _) (Or.inl rfl)
   refine hcon.mono ?_
   rintro e w' ⟨rfl, n, os, rfl⟩
   have hsz : (Go.Sort.pdq (ltOf impl_LabelsOf.cf) l.toArray 0 l.length (Lib.bitLen l.length) true true).toList.length = l.length := by rw [Array.length_toList]; exact hp.1.1
   obtain ⟨p1, p2⟩ := impl_LabelsOf.put (n := n) (os := os) (d := (Go.Sort.pdq (ltOf impl_LabelsOf.cf) l.toArray 0 l.length (Lib.bitLen l.length) true true).toList) h hsz HB (below_size HB)
   exact ⟨rfl, p1, p2⟩
theorem impl_LabelsOf.fit (a0 : ByteArray) (ws : List Int) (c : Int) (h : impl_assemble.f a0 = some (ws, 0, c)) : impl_assemble.fit a0 = true ∧ (impl_assemble.lines a0).length ≤ 600 := by
 unfold impl_assemble.f at h
 split at h
 · split at h
   · assumption
   · simp only [Option.some.injEq, Prod.mk.injEq] at h
     omega
 · cases h
theorem impl_LabelsOf.labs_len : ∀ (ls : List ByteArray) (n : Nat) (acc r : List S67), impl_LabelsOf.labs ls n acc = some r → r.length ≤ acc.length + ls.length
 | [], _, acc, r, h => by
  obtain rfl := Option.some.inj h
  simp
 | x :: t, n, acc, r, h => by
  unfold impl_LabelsOf.labs at h
  obtain ⟨q, _, h⟩ := Option.bind_eq_some_iff.1 h
  split at h
  · have := impl_LabelsOf.labs_len t n _ r h; simp at this ⊢; omega
  · have := impl_LabelsOf.labs_len t (n + 1) _ r h; simp at this ⊢; omega
/-- What stays through the lines. -/
structure impl_LabelsOf.St (w : World) (g : Nat) (ps : List ByteArray) (lb : List S67) (v8 : Value) (W : World) : Prop where
 lines : W.heap[g]? = some (.cells (ps.map Value.string).toArray 9 (0, 0))
 labs : Kd.R k67 67 W w.heap.size (fun _ => True) v8 lb
 below : Below w.heap.size w W
section
variable {w W W' : World} {g : Nat} {ps : List ByteArray} {lb : List S67} {v8 : Value}
theorem impl_LabelsOf.St.mono (h : impl_LabelsOf.St w g ps lb v8 W) (hb : Below W.heap.size W W') : impl_LabelsOf.St w g ps lb v8 W' := ⟨blk_below h.lines hb, Kd.R_below h.labs hb, below_step h.below hb⟩
theorem impl_LabelsOf.St.drewN (h : impl_LabelsOf.St w g ps lb v8 W) (n : Nat) : impl_LabelsOf.St w g ps lb v8 (W.drewN n) := ⟨blk_drewN h.lines n, Kd.R_drewN h.labs n, pw_below_drewN h.below n⟩
theorem impl_LabelsOf.St.drew (h : impl_LabelsOf.St w g ps lb v8 W) : impl_LabelsOf.St w g ps lb v8 W.drew := ⟨blk_drew h.lines, Kd.R_drew h.labs, below_drew1 h.below⟩
theorem impl_LabelsOf.St.alloc (h : impl_LabelsOf.St w g ps lb v8 W) (o : Obj) : impl_LabelsOf.St w g ps lb v8 (W.alloc o) := h.mono (below_alloc (Below.refl _ _) o)
theorem impl_LabelsOf.St.set (h : impl_LabelsOf.St w g ps lb v8 W) {gb : Nat} {cs : Array Value} (hb : W.heap[gb]? = some (.cells cs 64 (0, 0))) (hge : w.heap.size ≤ gb) (j : Nat) (u : Value) : impl_LabelsOf.St w g ps lb v8 (W.setCell ⟨gb, j, none⟩ u) :=
 ⟨blk_far h.lines (blk_ne h.lines hb (by decide)) u, Kd.R_set h.labs hb (by decide) j u, below_set h.below hge⟩
theorem impl_LabelsOf.St.box (h : impl_LabelsOf.St w g ps lb v8 W) {gb : Nat} {c0 c1 c2 c3 c4 c5 c6 c7 : Value} (hb : W.heap[gb]? = some (.cells #[c0, c1, c2, c3, c4, c5, c6, c7] 64 (0, 0))) (hge : w.heap.size ≤ gb) (u0 u1 u2 u3 u4 u5 u6 u7 : Value) :
 impl_LabelsOf.St w g ps lb v8 ((((((((W.setCell ⟨gb, 0, none⟩ u0).setCell ⟨gb, 1, none⟩ u1).setCell ⟨gb, 2, none⟩ u2).setCell ⟨gb, 3, none⟩ u3).setCell ⟨gb, 4, none⟩ u4).setCell ⟨gb, 5, none⟩ u5).setCell ⟨gb, 6, none⟩ u6).setCell ⟨gb, 7, none⟩ u7) ∧
 ((((((((W.setCell ⟨gb, 0, none⟩ u0).setCell ⟨gb, 1, none⟩ u1).setCell ⟨gb, 2, none⟩ u2).setCell ⟨gb, 3, none⟩ u3).setCell ⟨gb, 4, none⟩ u4).setCell ⟨gb, 5, none⟩ u5).setCell ⟨gb, 6, none⟩ u6).setCell ⟨gb, 7, none⟩ u7).heap[gb]? = some (.cells #[u0, u1, u2, u3, u4, u5, u6, u7] 64 (0, 0)) := by
 have b0 := blk_put hb 0 u0 (cs' := #[u0, c1, c2, c3, c4, c5, c6, c7]) rfl
 have b1 := blk_put b0 1 u1 (cs' := #[u0, u1, c2, c3, c4, c5, c6, c7]) rfl
 have b2 := blk_put b1 2 u2 (cs' := #[u0, u1, u2, c3, c4, c5, c6, c7]) rfl
 have b3 := blk_put b2 3 u3 (cs' := #[u0, u1, u2, u3, c4, c5, c6, c7]) rfl
 have b4 := blk_put b3 4 u4 (cs' := #[u0, u1, u2, u3, u4, c5, c6, c7]) rfl
 have b5 := blk_put b4 5 u5 (cs' := #[u0, u1, u2, u3, u4, u5, c6, c7]) rfl
 have b6 := blk_put b5 6 u6 (cs' := #[u0, u1, u2, u3, u4, u5, u6, c7]) rfl
 have b7 := blk_put b6 7 u7 (cs' := #[u0, u1, u2, u3, u4, u5, u6, u7]) rfl
 exact ⟨(((((((h.set hb hge 0 u0).set b0 hge 1 u1).set b1 hge 2 u2).set b2 hge 3 u3).set b3 hge 4 u4).set b4 hge 5 u5).set b5 hge 6 u6).set b6 hge 7 u7, b7⟩
theorem impl_LabelsOf.St.label (h : impl_LabelsOf.St w g ps lb v8 W) {v1 : Value} {lb' : List S67} (ho : Kd.R k67 67 W' w.heap.size (fun _ => True) v1 lb') (hb : Below w.heap.size w W') (hg : W.grownBy W' v8.ownBlock) : impl_LabelsOf.St w g ps lb' v1 W' :=
 ⟨blk_grown h.lines hg (Kd.R_ne h.labs h.lines (by decide)), ho, hb⟩
end
theorem impl_LabelsOf.infoL : (Tryz.prog.info? 67).map (fun i => (i.zero, i.size, i.bytes)) = some (some (.agg #[.string ⟨#[]⟩, .int .i64 0]), 2, 24) := by kernel_rfl
set_option maxHeartbeats 8000000 in
set_option maxRecDepth 100000 in
theorem impl_LabelsOf.bad (a0 : ByteArray) (ws : List Int) (c line : Int) (w : World) (ht : Tab.TabsODEM w) (hA : impl_assemble.f a0 = some (ws, c, line)) (hc : ¬ c = 0) :
 Calls Tryz.prog 13 #[.string a0] w fun e w' => e = .returned (.slice none 0 0) ∧ Below w.heap.size w w' := by
 have HA := Lib.hid (impl_assemble.calls a0 ws c line w ht hA)
 have c0 : (c != 0) = true := bne_iff_ne.2 hc
 have c1 : (c == 0) = false := beq_eq_false_iff_ne.2 hc
 clear hA hc ht
 go_enter Tryz.func13, Tryz.ntmps13
 go_wp2_with (first | ((with_reducible refine HA.out.mono ?_); rintro e w1 ⟨v1, rfl, _, hb⟩; have HB := Aside0.mk hb; clear hb))
 go_ret
 exact ⟨rfl, by (with_reducible repeat (first | apply below_alloc | apply pw_below_drewN | apply below_drew1)); exact HB.out⟩
--WALK--
set_option maxHeartbeats 8000000 in
set_option maxRecDepth 100000 in
theorem impl_LabelsOf.walk (a0 : ByteArray) (ws : List Int) (line : Int) (L : List S67) (w : World) (ht : Tab.TabsODEM w) (hA : impl_assemble.f a0 = some (ws, 0, line)) (hL : impl_LabelsOf.labs (impl_assemble.lines a0) 0 [] = some L) :
 Calls Tryz.prog 13 #[.string a0] w fun e w' => ∃ v0_ : Value, e = .returned v0_ ∧ Kd.R k67 67 w' w.heap.size (fun _ => True) v0_ (impl_LabelsOf.sorted L) ∧ Below w.heap.size w w' := by
 obtain ⟨hfit, hlen⟩ := impl_LabelsOf.fit a0 ws line hA
 have HA := Lib.hid (impl_assemble.calls a0 ws 0 line w ht hA)
 have HL := fun W (ht : Tab.TabsODEM W) => impl_assemble.linesGood a0 W ht hfit
 rw [decide_eq_true hlen] at HL
 obtain ⟨lst, hps⟩ : ∃ x, impl_assemble.pieces a0 = impl_assemble.lines a0 ++ [x] := by
  have h1 := impl_assemble.length_lines a0
  have hne : impl_assemble.pieces a0 ≠ [] := by intro e; rw [e] at h1; simp at h1
  exact ⟨_, (List.dropLast_concat_getLast hne).symm⟩
 rw [hps] at HL
 have HLL := Aside0.mk (show L.length ≤ 600 by have := impl_LabelsOf.labs_len _ _ _ _ hL; simp at this; omega)
 generalize impl_assemble.lines a0 = ls at *
 generalize impl_assemble.pieces a0 = ps at *
 have HL := Lib.hid HL
 have HT := Aside0.mk ht
 have HGO := Aside0.mk hL
 have HLEN := Aside0.mk hlen
 clear ht hps hfit hL hlen hA
 have hu64 := Tryz.underlying64
 have hu67 := Tryz.underlying67
 go_enter Tryz.func13, Tryz.ntmps13
 go_wp2_with (first | ((with_reducible refine HA.out.mono ?_); rintro e w0 ⟨v1, rfl, _, hb⟩; have HB0 := Aside0.mk hb; clear hb) | ((with_reducible refine (HL.out _ ?hT).mono ?_); (case hT => exact HT.out.below HB0.out); rintro e w1 ⟨g, rfl, hg, hge, hb⟩; have HS := Aside0.mk (show impl_LabelsOf.St w g (ls ++ [lst]) [] (.slice none 0 0) w1 from ⟨hg, Kd.R_nil _ _ _ _ _, below_step HB0.out hb⟩); clear hg hge hb))
 go_loopg [28, 8, 9] (ls.length + 1) (fun gk v28 v8 v9 wr => ∃ (n m : Nat) (lb : List S67), v28 = .int .i64 n ∧ v9 = .int .i64 m ∧ n ≤ ls.length ∧ Aside0 (m ≤ n) ∧ Aside0 (n + gk = ls.length + 1) ∧ Aside0 (lb.length ≤ n) ∧ Aside0 (impl_LabelsOf.labs (ls.drop n) m lb = some L) ∧ Aside0 (impl_LabelsOf.St w g (ls ++ [lst]) lb v8 wr))
 case atStart => exact ⟨0, 0, [], rfl, rfl, Nat.zero_le _, ⟨Nat.le_refl _⟩, ⟨Nat.zero_add _⟩, ⟨Nat.le_refl _⟩, HGO, HS⟩
 case round =>
  clear HS HGO HB0 HA HL
  obtain ⟨n, m, lb, rfl, rfl, hn, HM, HK, HLB, HGO, HS⟩ := hrel
  obtain ⟨A8, c8, e8⟩ := Kd.R_slice HS.out.labs
  subst e8
  by_cases hlt : n < ls.length
  · have d3 : decide (n < ls.length) = true := decide_eq_true hlt
    have HLT := Aside0.mk hlt
    obtain ⟨x, hx⟩ : ∃ x, ls[n]? = some x := ⟨_, List.getElem?_eq_getElem hlt⟩
    have cx : wr.cell? ⟨g, n, none⟩ = some (.string x) := by rw [blk_cell HS.out.lines n]; simp; rw [List.getElem?_append_left (by simpa using hlt)]; simp [hx]
    have hdrop : ls.drop n = x :: ls.drop (n + 1) := by rw [List.drop_eq_getElem_cons hlt]; rw [List.getElem?_eq_getElem hlt] at hx; rw [Option.some.inj hx]
    have hgo := HGO.out
    rw [hdrop] at hgo
    unfold impl_LabelsOf.labs at hgo
    obtain ⟨⟨q, op, a, b, c, imm, word, lab⟩, hrd, hgo⟩ := Option.bind_eq_some_iff.1 hgo
    dsimp only at hgo
    have HWR := Aside0.mk (show wrap64 ((n : Int) + 1) = (n : Int) + 1 by unfold wrap64; have := HLEN.out; omega)
    have HWM := Aside0.mk (show wrap64 ((m : Int) + 1) = (m : Int) + 1 by unfold wrap64; have := HLEN.out; have := HM.out; omega)
    have HRL := Lib.hid (fun W ht => impl_readLine.calls x q op a b c imm word lab W ht hrd)
    clear hdrop HGO hx hrd
    go_upto_region 11 with (first | ((with_reducible refine (HRL.out _ ?hT).mono ?_); (case hT => exact HT.out.below (by (with_reducible repeat (first | apply below_alloc | apply pw_below_drewN | apply below_drew1)); exact HS.out.below)); rintro e w3 ⟨rfl, hb_⟩; have n0_ := Aside0.mk (impl_LabelsOf.St.mono (by (with_reducible repeat (first | apply impl_LabelsOf.St.alloc | apply impl_LabelsOf.St.drewN | apply impl_LabelsOf.St.drew)); exact HS.out) hb_); clear hb_; have HS1 := n0_; clear n0_) | ((with_reducible refine gate_dst (N := 12) rfl ?_); refine box_event ?hg (N := 12) ?hd (cs := #[.int .i64 0, .int .i64 0, .int .i64 0, .int .i64 0, .int .i64 0, .int .i64 0, .int .u32 0, .string ⟨#[]⟩]) (t := 64) ?hr ?_; (case hd => rfl); (case hg => rfl); (case hr => first | (go_simp; done) | (go_simp; rfl)); intro gb hg_ w4 hbox hb_; have n0_ := Aside0.mk (impl_LabelsOf.St.mono (by (with_reducible repeat (first | apply impl_LabelsOf.St.alloc | apply impl_LabelsOf.St.drewN | apply impl_LabelsOf.St.drew)); exact HS1.out) hb_); have n1_ := Aside0.mk hbox; have n2_ := Aside0.mk (show w.heap.size ≤ gb by rw [hg_]; exact below_size (by (with_reducible repeat (first | apply below_alloc | apply pw_below_drewN | apply below_drew1)); exact HS1.out.below)); clear hg_ hbox hb_; have HS3 := n0_; have BKgb := n1_; have GEgb := n2_; clear n0_ n1_ n2_; have uzgb0 : w4.cell? ⟨gb, 0, none⟩ = some (.int .i64 0) := (blk_cell BKgb.out 0).trans rfl; have uzgb1 : w4.cell? ⟨gb, 1, none⟩ = some (.int .i64 0) := (blk_cell BKgb.out 1).trans rfl; have uzgb2 : w4.cell? ⟨gb, 2, none⟩ = some (.int .i64 0) := (blk_cell BKgb.out 2).trans rfl; have uzgb3 : w4.cell? ⟨gb, 3, none⟩ = some (.int .i64 0) := (blk_cell BKgb.out 3).trans rfl; have uzgb4 : w4.cell? ⟨gb, 4, none⟩ = some (.int .i64 0) := (blk_cell BKgb.out 4).trans rfl; have uzgb5 : w4.cell? ⟨gb, 5, none⟩ = some (.int .i64 0) := (blk_cell BKgb.out 5).trans rfl; have uzgb6 : w4.cell? ⟨gb, 6, none⟩ = some (.int .u32 0) := (blk_cell BKgb.out 6).trans rfl; have uzgb7 : w4.cell? ⟨gb, 7, none⟩ = some (.string ⟨#[]⟩) := (blk_cell BKgb.out 7).trans rfl; have fzgb0 := blk_frozen BKgb.out 0; have fzgb1 := blk_frozen BKgb.out 1; have fzgb2 := blk_frozen BKgb.out 2; have fzgb3 := blk_frozen BKgb.out 3; have fzgb4 := blk_frozen BKgb.out 4; have fzgb5 := blk_frozen BKgb.out 5; have fzgb6 := blk_frozen BKgb.out 6; have fzgb7 := blk_frozen BKgb.out 7))
    (try simp only [Act.put, List.setIfInBounds_toArray, List.set_cons_zero, List.set_cons_succ])
    obtain ⟨s1, s2⟩ := HS3.out.box BKgb.out GEgb.out (.int .i64 q) (.int .i64 op) (.int .i64 a) (.int .i64 b) (.int .i64 c) (.int .i64 imm) (.int .u32 word) (.string lab)
    have HS4 := Aside0.mk s1
    have BK4 := Aside0.mk s2
    clear s1 s2 HS3 HS1 BKgb HRL HS uzgb0 fzgb0 uzgb1 fzgb1 uzgb2 fzgb2 uzgb3 fzgb3 uzgb4 fzgb4 uzgb5 fzgb5 uzgb6 fzgb6 uzgb7 fzgb7
    generalize (World.setCell (World.setCell (World.setCell (World.setCell (World.setCell (World.setCell (World.setCell (World.setCell w4 ⟨gb, 0, none⟩ (.int .i64 q)) ⟨gb, 1, none⟩ (.int .i64 op)) ⟨gb, 2, none⟩ (.int .i64 a)) ⟨gb, 3, none⟩ (.int .i64 b)) ⟨gb, 4, none⟩ (.int .i64 c)) ⟨gb, 5, none⟩ (.int .i64 imm)) ⟨gb, 6, none⟩ (.int .u32 word)) ⟨gb, 7, none⟩ (.string lab)) = wb at HS4 BK4 ⊢
    have ub0 : wb.cell? ⟨gb, 0, none⟩ = some (.int .i64 q) := (blk_cell BK4.out 0).trans rfl
    have ub1 : wb.cell? ⟨gb, 1, none⟩ = some (.int .i64 op) := (blk_cell BK4.out 1).trans rfl
    have ub2 : wb.cell? ⟨gb, 2, none⟩ = some (.int .i64 a) := (blk_cell BK4.out 2).trans rfl
    have ub3 : wb.cell? ⟨gb, 3, none⟩ = some (.int .i64 b) := (blk_cell BK4.out 3).trans rfl
    have ub4 : wb.cell? ⟨gb, 4, none⟩ = some (.int .i64 c) := (blk_cell BK4.out 4).trans rfl
    have ub5 : wb.cell? ⟨gb, 5, none⟩ = some (.int .i64 imm) := (blk_cell BK4.out 5).trans rfl
    have ub6 : wb.cell? ⟨gb, 6, none⟩ = some (.int .u32 word) := (blk_cell BK4.out 6).trans rfl
    have ub7 : wb.cell? ⟨gb, 7, none⟩ = some (.string lab) := (blk_cell BK4.out 7).trans rfl
    have fb0 := blk_frozen BK4.out 0
    have fb1 := blk_frozen BK4.out 1
    have fb2 := blk_frozen BK4.out 2
    have fb3 := blk_frozen BK4.out 3
    have fb4 := blk_frozen BK4.out 4
    have fb5 := blk_frozen BK4.out 5
    have fb6 := blk_frozen BK4.out 6
    have fb7 := blk_frozen BK4.out 7
    by_cases k1 : q = 1
    case pos =>
     rw [if_pos k1] at hgo
     have HGN := Aside0.mk hgo
     have k1b : (q == 1) = true := beq_iff_eq.2 k1
     have k1c : (q != 1) = false := bne_eq_false_iff_eq.2 k1
     clear hgo k1
     go_wp2_with (first | ((with_reducible refine gate_builtin (b := .append) (xs := #[.tmp 37, .tmp 42]) rfl ?_); at_builtin; refine Kd.R_append k67 (w0 := w) w.heap.size rfl (.tmp 37) (.tmp 42) 32 67 _ 24 rfl Tryz.underlying32 impl_LabelsOf.infoL rfl (by decide) (by omega) (.slice A8 lb.length c8) lb (⟨lab, (m : Int)⟩ : S67) [.string lab, .int .i64 m] (fun _ => True) (fun _ => False) rfl (by first | (go_simp; done) | (go_simp; rfl)) ?aP (fun _ hk => hk.elim) ?aF ?aO ?aB ?aS ?aL ?_; (case aP => exact k67_mkM _ _ _ (⟨lab, (m : Int)⟩ : S67)); (case aB => exact (by (with_reducible repeat (first | apply below_alloc | apply pw_below_drewN | apply below_drew1)); exact HS4.out.below)); (case aF => exact (fun _ _ => trivial)); (case aO => exact (by (with_reducible repeat (first | apply Kd.R_alloc | apply Kd.R_drewN | apply Kd.R_drew)); exact HS4.out.labs)); (case aS => exact (below_size (by (with_reducible repeat (first | apply below_alloc | apply pw_below_drewN | apply below_drew1)); exact HS4.out.below))); (case aL => have h1 := HLB.out; have h2 := HLEN.out; have h3 := HLT.out; omega); intro v6b w6 ho_ hb_ hg_ hat_; have n0_ := Aside0.mk (impl_LabelsOf.St.label (by (with_reducible repeat (first | apply impl_LabelsOf.St.alloc | apply impl_LabelsOf.St.drewN | apply impl_LabelsOf.St.drew)); exact HS4.out) ho_ hb_ hg_); clear ho_ hb_ hg_ hat_; have HS6 := n0_; clear n0_))
     go_roundg (gk - 1)
     case measure => have h1 := HK.out; have h2 := HLT.out; omega
     case rel => exact ⟨n + 1, m, (lb ++ [⟨lab, (m : Int)⟩]), by rw [HWR.out]; rfl, rfl, HLT.out, ⟨by have h1 := HM.out; omega⟩, ⟨by have h1 := HK.out; have h2 := HLT.out; omega⟩, ⟨by have h1 := HLB.out; simp; omega⟩, HGN, ⟨(by (with_reducible repeat (first | apply impl_LabelsOf.St.alloc | apply impl_LabelsOf.St.drewN | apply impl_LabelsOf.St.drew)); exact HS6.out)⟩⟩
    case neg =>
     rw [if_neg k1] at hgo
     have HGN := Aside0.mk hgo
     have k1b : (q == 1) = false := beq_eq_false_iff_ne.2 k1
     have k1c : (q != 1) = true := bne_iff_ne.2 k1
     clear hgo k1
     go_wp2
     go_roundg (gk - 1)
     case measure => have h1 := HK.out; have h2 := HLT.out; omega
     case rel => exact ⟨n + 1, m + 1, lb, by rw [HWR.out]; rfl, by rw [HWM.out]; rfl, HLT.out, ⟨by have h1 := HM.out; omega⟩, ⟨by have h1 := HK.out; have h2 := HLT.out; omega⟩, ⟨by have h1 := HLB.out; omega⟩, HGN, ⟨(by (with_reducible repeat (first | apply impl_LabelsOf.St.alloc | apply impl_LabelsOf.St.drewN | apply impl_LabelsOf.St.drew)); exact HS4.out)⟩⟩
  · have d3 : decide (n < ls.length) = false := decide_eq_false hlt
    have hgo := HGO.out
    rw [List.drop_eq_nil_of_le (by omega)] at hgo
    unfold impl_LabelsOf.labs at hgo
    obtain rfl := Option.some.inj hgo
    have HSO := Lib.hid (fun (W : World) (h1 : Kd.R k67 67 W w.heap.size (fun _ => True) (.slice A8 lb.length c8) lb) (h2 : Below w.heap.size w W) => impl_LabelsOf.sort (v := .nilIface) lb (by have := HLL.out; omega) h1 h2)
    clear hgo hlt HGO
    go_wp2_with (first | ((with_reducible refine (HSO.out _ ?h1 ?h2).mono ?_); (case h1 => exact (by (with_reducible repeat (first | apply Kd.R_alloc | apply Kd.R_drewN | apply Kd.R_drew)); exact HS.out.labs)); (case h2 => exact (by (with_reducible repeat (first | apply below_alloc | apply pw_below_drewN | apply below_drew1)); exact HS.out.below)); rintro e w5 ⟨rfl, ho_, hb_⟩; have HO5 := Aside0.mk ho_; have HB5 := Aside0.mk hb_; clear ho_ hb_))
    go_ret
    exact ⟨_, rfl, (by (with_reducible repeat (first | apply Kd.R_alloc | apply Kd.R_drewN | apply Kd.R_drew)); exact HO5.out), (by (with_reducible repeat (first | apply below_alloc | apply pw_below_drewN | apply below_drew1)); exact HB5.out)⟩
theorem impl_LabelsOf.calls (a0 : ByteArray) (r : List S67) (w : World) (ht : Tab.TabsODEM w) (h : impl_LabelsOf.f a0 = some r) :
 Calls Tryz.prog 13 #[.string a0] w fun e w' => ∃ v0_ : Value, e = .returned (v0_) ∧ Kd.R k67 67 w' w.heap.size (fun _ => True) v0_ r ∧ Below w.heap.size w w' := by
 unfold impl_LabelsOf.f at h
 obtain ⟨⟨ws, c, line⟩, hA, h⟩ := Option.bind_eq_some_iff.1 h
 dsimp only at h
 by_cases hc : c = 0
 · rw [if_pos hc] at h
   subst hc
   obtain ⟨L, hL, h⟩ := Option.bind_eq_some_iff.1 h
   obtain rfl := Option.some.inj h
   exact impl_LabelsOf.walk a0 ws line L w ht hA hL
 · rw [if_neg hc] at h
   obtain rfl := Option.some.inj h
   exact (impl_LabelsOf.bad a0 ws c line w ht hA hc).mono fun e w' ⟨h1, h2⟩ => ⟨_, h1, Kd.R_nil _ _ _ _ _, h2⟩

/-! ### spec_l01In: function 74 -/
def spec_l01In.f (a0 : Int) (a1 : Int) (a2 : Int) : Option (Bool) := if a0 ≥ a1 then (some (decide (a0 ≤ a2))) else (some false)
set_option maxHeartbeats 8000000 in
set_option maxRecDepth 100000 in
theorem spec_l01In.calls (a0 : Int) (a1 : Int) (a2 : Int) (r : Bool) (w : World) (h : spec_l01In.f a0 a1 a2 = some r) :
 Calls Tryz.prog 74 #[.int .i64 a0, .int .i64 a1, .int .i64 a2] w fun e w' => e = .returned (.bool r) ∧ Drawn0 w w' := by
 have H : (if a0 ≥ a1 then (some (decide (a0 ≤ a2))) else (some false)) = some r := h
 clear h
 by_cases c4 : a0 ≥ a1
 · rw [if_pos c4] at H
   have c4b0 : decide (a1 ≤ a0) = true := decide_eq_true c4
   clear c4
   obtain rfl := Option.some.inj H
   go_enter Tryz.func74, Tryz.ntmps74
   go_wp2
   go_ret
   exact ⟨by first | rfl | (simp; done) | (simp [*]; done), by repeat (first | exact Drawn0.refl _ | apply Drawn0.step)⟩
 · rw [if_neg c4] at H
   have c4b0 : decide (a1 ≤ a0) = false := decide_eq_false c4
   clear c4
   obtain rfl := Option.some.inj H
   go_enter Tryz.func74, Tryz.ntmps74
   go_wp2
   go_ret
   exact ⟨by first | rfl | (simp; done) | (simp [*]; done), by repeat (first | exact Drawn0.refl _ | apply Drawn0.step)⟩

/-! ### spec_l02Forms: function 77 -/
def spec_l02Forms.f  : Option (List Int) := some (([0, 7, 7, 7, 7, 7, 7, 7, 7, 7, 7, 7, 7, 11, 9, 11, 11, 11, 11, 11, 11, 11, 9, 10, 1, 11, 11, 11, 9, 9, 0, 0, 8] : List Int))
set_option maxHeartbeats 8000000 in
set_option maxRecDepth 100000 in
theorem spec_l02Forms.calls  (r : List Int) (w : World) (h : spec_l02Forms.f  = some r) :
 Calls Tryz.prog 77 #[] w fun e w' => ∃ v0_ : Value, e = .returned (v0_) ∧ Kd.R (Kd.int .i64) 3 w' w.heap.size (fun _ => True) v0_ r ∧ Below w.heap.size w w' := by
 have HB := Aside0.mk (Below.refl w.heap.size w)
 have H : (some (([0, 7, 7, 7, 7, 7, 7, 7, 7, 7, 7, 7, 7, 11, 9, 11, 11, 11, 11, 11, 11, 11, 9, 10, 1, 11, 11, 11, 9, 9, 0, 0, 8] : List Int))) = some r := h
 clear h
 obtain ⟨y114, hy114⟩ : ∃ y_ : List Int, y_ = (([0, 7, 7, 7, 7, 7, 7, 7, 7, 7, 7, 7, 7, 11, 9, 11, 11, 11, 11, 11, 11, 11, 9, 10, 1, 11, 11, 11, 9, 9, 0, 0, 8] : List Int)) := ⟨_, rfl⟩
 replace H : (some y114) = some r := by first | (rw [hy114]; with_reducible exact H) | (have H2_ := (Option.bind_some _ _).symm.trans H; rw [hy114]; with_reducible exact H2_) | (have H2_ := (Option.bind_some _ _).symm.trans H; with_reducible exact H2_) | with_reducible exact H | (rw [hy114]; exact H) | exact H
 have Ny114 := Aside0.mk hy114
 clear hy114
 obtain rfl := Option.some.inj H
 go_enter Tryz.func77, Tryz.ntmps77
 go_wp2_with (first | ((with_reducible refine gate_dst (N := 1) rfl ?_); refine Kd.R_lit (Kd.int .i64) _ 3 ?hg (N := 1) ?hd (xs := ([0, 7, 7, 7, 7, 7, 7, 7, 7, 7, 7, 7, 7, 11, 9, 11, 11, 11, 11, 11, 11, 11, 9, 10, 1, 11, 11, 11, 9, 9, 0, 0, 8] : List Int)) (inner := [.int .i64 0, .int .i64 7, .int .i64 7, .int .i64 7, .int .i64 7, .int .i64 7, .int .i64 7, .int .i64 7, .int .i64 7, .int .i64 7, .int .i64 7, .int .i64 7, .int .i64 7, .int .i64 11, .int .i64 9, .int .i64 11, .int .i64 11, .int .i64 11, .int .i64 11, .int .i64 11, .int .i64 11, .int .i64 11, .int .i64 9, .int .i64 10, .int .i64 1, .int .i64 11, .int .i64 11, .int .i64 11, .int .i64 9, .int .i64 9, .int .i64 0, .int .i64 0, .int .i64 8]) (ok := fun _ => True) (okp := fun _ => True) ?hr ?hp (fun _ hk => hk) trivial (Below.refl _ _) (Nat.le_refl _) (by simp) ?_; (case hd => rfl); (case hg => rfl); (case hr => first | (go_simp; done) | (go_simp; rfl)); (case hp => exact (Reps.one (show Kd.M (Kd.int .i64) _ _ _ 0 [.int .i64 0] from rfl) (Reps.one (show Kd.M (Kd.int .i64) _ _ _ 7 [.int .i64 7] from rfl) (Reps.one (show Kd.M (Kd.int .i64) _ _ _ 7 [.int .i64 7] from rfl) (Reps.one (show Kd.M (Kd.int .i64) _ _ _ 7 [.int .i64 7] from rfl) (Reps.one (show Kd.M (Kd.int .i64) _ _ _ 7 [.int .i64 7] from rfl) (Reps.one (show Kd.M (Kd.int .i64) _ _ _ 7 [.int .i64 7] from rfl) (Reps.one (show Kd.M (Kd.int .i64) _ _ _ 7 [.int .i64 7] from rfl) (Reps.one (show Kd.M (Kd.int .i64) _ _ _ 7 [.int .i64 7] from rfl) (Reps.one (show Kd.M (Kd.int .i64) _ _ _ 7 [.int .i64 7] from rfl) (Reps.one (show Kd.M (Kd.int .i64) _ _ _ 7 [.int .i64 7] from rfl) (Reps.one (show Kd.M (Kd.int .i64) _ _ _ 7 [.int .i64 7] from rfl) (Reps.one (show Kd.M (Kd.int .i64) _ _ _ 7 [.int .i64 7] from rfl) (Reps.one (show Kd.M (Kd.int .i64) _ _ _ 7 [.int .i64 7] from rfl) (Reps.one (show Kd.M (Kd.int .i64) _ _ _ 11 [.int .i64 11] from rfl) (Reps.one (show Kd.M (Kd.int .i64) _ _ _ 9 [.int .i64 9] from rfl) (Reps.one (show Kd.M (Kd.int .i64) _ _ _ 11 [.int .i64 11] from rfl) (Reps.one (show Kd.M (Kd.int .i64) _ _ _ 11 [.int .i64 11] from rfl) (Reps.one (show Kd.M (Kd.int .i64) _ _ _ 11 [.int .i64 11] from rfl) (Reps.one (show Kd.M (Kd.int .i64) _ _ _ 11 [.int .i64 11] from rfl) (Reps.one (show Kd.M (Kd.int .i64) _ _ _ 11 [.int .i64 11] from rfl) (Reps.one (show Kd.M (Kd.int .i64) _ _ _ 11 [.int .i64 11] from rfl) (Reps.one (show Kd.M (Kd.int .i64) _ _ _ 11 [.int .i64 11] from rfl) (Reps.one (show Kd.M (Kd.int .i64) _ _ _ 9 [.int .i64 9] from rfl) (Reps.one (show Kd.M (Kd.int .i64) _ _ _ 10 [.int .i64 10] from rfl) (Reps.one (show Kd.M (Kd.int .i64) _ _ _ 1 [.int .i64 1] from rfl) (Reps.one (show Kd.M (Kd.int .i64) _ _ _ 11 [.int .i64 11] from rfl) (Reps.one (show Kd.M (Kd.int .i64) _ _ _ 11 [.int .i64 11] from rfl) (Reps.one (show Kd.M (Kd.int .i64) _ _ _ 11 [.int .i64 11] from rfl) (Reps.one (show Kd.M (Kd.int .i64) _ _ _ 9 [.int .i64 9] from rfl) (Reps.one (show Kd.M (Kd.int .i64) _ _ _ 9 [.int .i64 9] from rfl) (Reps.one (show Kd.M (Kd.int .i64) _ _ _ 0 [.int .i64 0] from rfl) (Reps.one (show Kd.M (Kd.int .i64) _ _ _ 0 [.int .i64 0] from rfl) (Reps.one (show Kd.M (Kd.int .i64) _ _ _ 8 [.int .i64 8] from rfl) (Reps.none _ _))))))))))))))))))))))))))))))))))); intro v115 w1 ho2 hb hg_ hnew_; clear hg_ hnew_; (first | rw [← Ny114.out] at ho2 | (simp only [Int.reduceToNat] at ho2; rw [← Ny114.out] at ho2)); have n0_ := Aside0.mk (Kd.R_lower ho2 (below_size (by repeat (first | (with_reducible first | exact HB.out | apply below_alloc | apply pw_below_drewN | apply below_drew1) | exact HB.out)))); have n1_ := Aside0.mk (below_step (by repeat (first | (with_reducible first | exact HB.out | apply below_alloc | apply pw_below_drewN | apply below_drew1) | exact HB.out)) hb); clear HB; have HO116 := n0_; have HB := n1_; clear n0_ n1_; clear hb ho2))
 go_ret
 exact ⟨_, by first | rfl | (simp [errW_none, errW_some] <;> rfl) | (simp [*, errW_none, errW_some] <;> rfl), by (with_reducible repeat (first | apply Kd.R_alloc | apply Kd.R_drewN | apply Kd.R_drew)); exact HO116.out, by repeat (first | (with_reducible first | exact HB.out | apply below_alloc | apply pw_below_drewN | apply below_drew1) | exact HB.out)⟩

/-! ### spec_FormOf: function 48 -/
def spec_FormOf.f (a0 : Int) : Option (Int) := (spec_l01In.f a0 0 32).bind fun t117 => (if t117 = true then ((spec_l02Forms.f).bind fun t118 => (if 0 ≤ a0 then (if a0 < (t118.length : Int) then (some (rd t118 a0)) else (none)) else (none))) else (some (-1)))
set_option maxHeartbeats 8000000 in
set_option maxRecDepth 100000 in
theorem spec_FormOf.calls (a0 : Int) (r : Int) (w : World) (h : spec_FormOf.f a0 = some r) :
 Calls Tryz.prog 48 #[.int .i64 a0] w fun e w' => e = .returned (.int .i64 r) ∧ Below w.heap.size w w' := by
 have HB := Aside0.mk (Below.refl w.heap.size w)
 have H : ((spec_l01In.f a0 0 32).bind fun t117 => (if t117 = true then ((spec_l02Forms.f).bind fun t118 => (if 0 ≤ a0 then (if a0 < (t118.length : Int) then (some (rd t118 a0)) else (none)) else (none))) else (some (-1)))) = some r := h
 clear h
 replace H := Option.bind_eq_some_iff.mp H
 obtain ⟨t117, A20, H⟩ := H
 replace H : (if t117 = true then ((spec_l02Forms.f).bind fun t118 => (if 0 ≤ a0 then (if a0 < (t118.length : Int) then (some (rd t118 a0)) else (none)) else (none))) else (some (-1))) = some r := H
 have A2 := Aside0.mk A20
 clear A20
 by_cases c3 : t117 = true
 · subst c3
   have H1 : ((spec_l02Forms.f).bind fun t118 => (if 0 ≤ a0 then (if a0 < (t118.length : Int) then (some (rd t118 a0)) else (none)) else (none))) = some r := by rw [if_pos rfl] at H; exact H
   clear H
   have H := H1
   clear H1
   replace H := Option.bind_eq_some_iff.mp H
   obtain ⟨t118, A40, H⟩ := H
   replace H : (if 0 ≤ a0 then (if a0 < (t118.length : Int) then (some (rd t118 a0)) else (none)) else (none)) = some r := H
   have A4 := Aside0.mk A40
   clear A40
   by_cases c5 : 0 ≤ a0
   · rw [if_pos c5] at H
     have c5b0 : decide (0 ≤ a0) = true := decide_eq_true c5
     clear c5
     by_cases c6 : a0 < (t118.length : Int)
     · rw [if_pos c6] at H
       have c6b0 : decide (a0 < (t118.length : Int)) = true := decide_eq_true c6
       clear c6
       obtain rfl := Option.some.inj H
       go_enter Tryz.func48, Tryz.ntmps48
       go_wp2_with (first | ((with_reducible refine gate_callee (f := 74) rfl ?_); refine goesL_ (some 4) rfl rfl Tryz.func74 (by kernel_rfl) rfl #[.int .i64 a0, .int .i64 0, .int .i64 32] rfl (by (try simp only [List.map_toArray, List.map_cons, List.map_nil]); first | done | rfl | (simp only [List.length_drop, List.length_take]; rfl)) ?_; (with_reducible refine (spec_l01In.calls a0 0 32 true _ A2.out).mono ?_); rintro e w' ⟨rfl, ⟨nd, rfl⟩⟩; refine ⟨_, rfl, ?_⟩) | ((with_reducible refine gate_callee (f := 77) rfl ?_); refine goesL_ (some 6) rfl rfl Tryz.func77 (by kernel_rfl) rfl #[] rfl (by (try simp only [List.map_toArray, List.map_cons, List.map_nil]); first | done | rfl | (simp only [List.length_drop, List.length_take]; rfl)) ?_; (with_reducible refine (spec_l02Forms.calls  t118 _ A4.out).mono ?_); rintro e w7 ⟨v119, rfl, ho0, hb⟩; refine ⟨_, rfl, ?_⟩; have n0_ := Aside0.mk (Kd.R_lower ho0 (below_size (by repeat (first | (with_reducible first | exact HB.out | apply below_alloc | apply pw_below_drewN | apply below_drew1) | exact HB.out)))); have n1_ := Aside0.mk (below_step (by repeat (first | (with_reducible first | exact HB.out | apply below_alloc | apply pw_below_drewN | apply below_drew1) | exact HB.out)) hb); clear HB; have HO120 := n0_; have HB := n1_; clear n0_ n1_; (try clear hb); (try clear hb2); (try clear hk); (try clear hi); (try clear ho0); obtain ⟨Ao8, co8, eo8⟩ := Kd.R_slice HO120.out; subst eo8; have p121 : 0 ≤ (a0 : Int) := of_decide_eq_true (by first | (with_reducible assumption) | assumption); have q121 : a0 < (t118.length : Int) := of_decide_eq_true (by first | (with_reducible assumption) | assumption); obtain ⟨ad121, e121, hx121_0⟩ := Kd.at_int (Kd.R_reads' HO120.out).2.2 a0 p121 q121; cases e121; replace p121 := eq_true p121; replace q121 := eq_true q121))
       go_ret
       exact ⟨by first | rfl | (simp [errW_none, errW_some] <;> rfl) | (simp [*, errW_none, errW_some] <;> rfl), by repeat (first | (with_reducible first | exact HB.out | apply below_alloc | apply pw_below_drewN | apply below_drew1) | exact HB.out)⟩
     · rw [if_neg c6] at H
       exact absurd H (by simp)
   · rw [if_neg c5] at H
     exact absurd H (by simp)
 · replace c3 := Bool.eq_false_iff.mpr c3
   subst c3
   have H1 : (some (-1)) = some r := by rw [if_neg (show ¬ (false = true) by decide)] at H; exact H
   clear H
   have H := H1
   clear H1
   obtain rfl := Option.some.inj H
   go_enter Tryz.func48, Tryz.ntmps48
   go_wp2_with (first | ((with_reducible refine gate_callee (f := 74) rfl ?_); refine goesL_ (some 4) rfl rfl Tryz.func74 (by kernel_rfl) rfl #[.int .i64 a0, .int .i64 0, .int .i64 32] rfl (by (try simp only [List.map_toArray, List.map_cons, List.map_nil]); first | done | rfl | (simp only [List.length_drop, List.length_take]; rfl)) ?_; (with_reducible refine (spec_l01In.calls a0 0 32 false _ A2.out).mono ?_); rintro e w' ⟨rfl, ⟨nd, rfl⟩⟩; refine ⟨_, rfl, ?_⟩))
   go_ret
   exact ⟨by first | rfl | (simp [errW_none, errW_some] <;> rfl) | (simp [*, errW_none, errW_some] <;> rfl), by repeat (first | (with_reducible first | exact HB.out | apply below_alloc | apply pw_below_drewN | apply below_drew1) | exact HB.out)⟩

/-! ### spec_l02Field: function 76 -/
def spec_l02Field.f (a0 : Int) (a1 : Int) (a2 : Int) (a3 : Int) (a4 : Int) : Option (Bool) := if a1 = 0 then (none) else (if (Int.tmod (wrap64 (Int.tdiv a0 a1)) 2) = 0 then (some (a2 == 0)) else ((spec_l01In.f a2 a3 a4).bind fun t122 => (some t122)))
set_option maxHeartbeats 8000000 in
set_option maxRecDepth 100000 in
theorem spec_l02Field.calls (a0 : Int) (a1 : Int) (a2 : Int) (a3 : Int) (a4 : Int) (r : Bool) (w : World) (h : spec_l02Field.f a0 a1 a2 a3 a4 = some r) :
 Calls Tryz.prog 76 #[.int .i64 a0, .int .i64 a1, .int .i64 a2, .int .i64 a3, .int .i64 a4] w fun e w' => e = .returned (.bool r) ∧ Drawn0 w w' := by
 have H : (if a1 = 0 then (none) else (if (Int.tmod (wrap64 (Int.tdiv a0 a1)) 2) = 0 then (some (a2 == 0)) else ((spec_l01In.f a2 a3 a4).bind fun t122 => (some t122)))) = some r := h
 clear h
 by_cases c6 : a1 = 0
 · rw [if_pos c6] at H
   exact absurd H (by simp)
 · rw [if_neg c6] at H
   have c6b0 : (a1 == 0) = false := beq_eq_false_iff_ne.mpr c6
   have c6b1 : (a1 != 0) = true := bne_iff_ne.mpr c6
   by_cases c7 : (Int.tmod (wrap64 (Int.tdiv a0 a1)) 2) = 0
   · rw [if_pos c7] at H
     have c7b0 : ((Int.tmod (wrap64 (Int.tdiv a0 a1)) 2) == 0) = true := beq_iff_eq.mpr c7
     have c7b1 : ((Int.tmod (wrap64 (Int.tdiv a0 a1)) 2) != 0) = false := bne_eq_false_iff_eq.mpr c7
     clear c7
     obtain rfl := Option.some.inj H
     go_enter Tryz.func76, Tryz.ntmps76
     go_wp2
     go_ret
     exact ⟨by first | rfl | (simp; done) | (simp [*]; done), by repeat (first | exact Drawn0.refl _ | apply Drawn0.step)⟩
   · rw [if_neg c7] at H
     have c7b0 : ((Int.tmod (wrap64 (Int.tdiv a0 a1)) 2) == 0) = false := beq_eq_false_iff_ne.mpr c7
     have c7b1 : ((Int.tmod (wrap64 (Int.tdiv a0 a1)) 2) != 0) = true := bne_iff_ne.mpr c7
     replace H := Option.bind_eq_some_iff.mp H
     obtain ⟨t122, A80, H⟩ := H
     replace H : (some t122) = some r := H
     have A8 := Aside0.mk A80
     clear A80
     obtain rfl := Option.some.inj H
     go_enter Tryz.func76, Tryz.ntmps76
     go_wp2_with (first | ((with_reducible refine gate_callee (f := 74) rfl ?_); refine goesL_ (some 21) rfl rfl Tryz.func74 (by kernel_rfl) rfl #[.int .i64 a2, .int .i64 a3, .int .i64 a4] rfl (by (try simp only [List.map_toArray, List.map_cons, List.map_nil]); first | done | rfl | (simp only [List.length_drop, List.length_take]; rfl)) ?_; (with_reducible refine (spec_l01In.calls a2 a3 a4 t122 _ A8.out).mono ?_); rintro e w' ⟨rfl, ⟨nd, rfl⟩⟩; refine ⟨_, rfl, ?_⟩))
     go_ret
     exact ⟨by first | rfl | (simp; done) | (simp [*]; done), by repeat (first | exact Drawn0.refl _ | apply Drawn0.step)⟩

/-! ### spec_InstrOk: function 46 -/
def spec_InstrOk.f (a0_0 : Int) (a0_1 : Int) (a0_2 : Int) (a0_3 : Int) (a0_4 : Int) : Option (Bool) := (spec_FormOf.f a0_0).bind fun t124 => (if t124 ≥ 0 then ((spec_l02Field.f t124 1 a0_1 0 15).bind fun t125 => (if t125 = true then ((spec_l02Field.f t124 2 a0_2 0 15).bind fun t126 => (if t126 = true then ((spec_l02Field.f t124 4 a0_3 0 15).bind fun t127 => (if t127 = true then ((spec_l02Field.f t124 8 a0_4 (-8192) 8191).bind fun t128 => (some t128)) else (some false))) else (some false))) else (some false))) else (some false))
set_option maxHeartbeats 8000000 in
set_option maxRecDepth 100000 in
theorem spec_InstrOk.calls (a0_0 : Int) (a0_1 : Int) (a0_2 : Int) (a0_3 : Int) (a0_4 : Int) (r : Bool) (w : World) (h : spec_InstrOk.f a0_0 a0_1 a0_2 a0_3 a0_4 = some r) :
 Calls Tryz.prog 46 #[.agg #[.int .i64 a0_0, .int .i64 a0_1, .int .i64 a0_2, .int .i64 a0_3, .int .i64 a0_4]] w fun e w' => e = .returned (.bool r) ∧ Below w.heap.size w w' := by
 have hu48 := Tryz.underlying48
 have HB := Aside0.mk (Below.refl w.heap.size w)
 have H : ((spec_FormOf.f a0_0).bind fun t124 => (if t124 ≥ 0 then ((spec_l02Field.f t124 1 a0_1 0 15).bind fun t125 => (if t125 = true then ((spec_l02Field.f t124 2 a0_2 0 15).bind fun t126 => (if t126 = true then ((spec_l02Field.f t124 4 a0_3 0 15).bind fun t127 => (if t127 = true then ((spec_l02Field.f t124 8 a0_4 (-8192) 8191).bind fun t128 => (some t128)) else (some false))) else (some false))) else (some false))) else (some false))) = some r := h
 clear h
 replace H := Option.bind_eq_some_iff.mp H
 obtain ⟨t124, A20, H⟩ := H
 replace H : (if t124 ≥ 0 then ((spec_l02Field.f t124 1 a0_1 0 15).bind fun t125 => (if t125 = true then ((spec_l02Field.f t124 2 a0_2 0 15).bind fun t126 => (if t126 = true then ((spec_l02Field.f t124 4 a0_3 0 15).bind fun t127 => (if t127 = true then ((spec_l02Field.f t124 8 a0_4 (-8192) 8191).bind fun t128 => (some t128)) else (some false))) else (some false))) else (some false))) else (some false)) = some r := H
 have A2 := Aside0.mk A20
 clear A20
 by_cases c3 : t124 ≥ 0
 · rw [if_pos c3] at H
   have c3b0 : decide (0 ≤ t124) = true := decide_eq_true c3
   clear c3
   replace H := Option.bind_eq_some_iff.mp H
   obtain ⟨t125, A40, H⟩ := H
   replace H : (if t125 = true then ((spec_l02Field.f t124 2 a0_2 0 15).bind fun t126 => (if t126 = true then ((spec_l02Field.f t124 4 a0_3 0 15).bind fun t127 => (if t127 = true then ((spec_l02Field.f t124 8 a0_4 (-8192) 8191).bind fun t128 => (some t128)) else (some false))) else (some false))) else (some false)) = some r := H
   have A4 := Aside0.mk A40
   clear A40
   by_cases c5 : t125 = true
   · subst c5
     have H1 : ((spec_l02Field.f t124 2 a0_2 0 15).bind fun t126 => (if t126 = true then ((spec_l02Field.f t124 4 a0_3 0 15).bind fun t127 => (if t127 = true then ((spec_l02Field.f t124 8 a0_4 (-8192) 8191).bind fun t128 => (some t128)) else (some false))) else (some false))) = some r := by rw [if_pos rfl] at H; exact H
     clear H
     have H := H1
     clear H1
     replace H := Option.bind_eq_some_iff.mp H
     obtain ⟨t126, A60, H⟩ := H
     replace H : (if t126 = true then ((spec_l02Field.f t124 4 a0_3 0 15).bind fun t127 => (if t127 = true then ((spec_l02Field.f t124 8 a0_4 (-8192) 8191).bind fun t128 => (some t128)) else (some false))) else (some false)) = some r := H
     have A6 := Aside0.mk A60
     clear A60
     by_cases c7 : t126 = true
     · subst c7
       have H1 : ((spec_l02Field.f t124 4 a0_3 0 15).bind fun t127 => (if t127 = true then ((spec_l02Field.f t124 8 a0_4 (-8192) 8191).bind fun t128 => (some t128)) else (some false))) = some r := by rw [if_pos rfl] at H; exact H
       clear H
       have H := H1
       clear H1
       replace H := Option.bind_eq_some_iff.mp H
       obtain ⟨t127, A80, H⟩ := H
       replace H : (if t127 = true then ((spec_l02Field.f t124 8 a0_4 (-8192) 8191).bind fun t128 => (some t128)) else (some false)) = some r := H
       have A8 := Aside0.mk A80
       clear A80
       by_cases c9 : t127 = true
       · subst c9
         have H1 : ((spec_l02Field.f t124 8 a0_4 (-8192) 8191).bind fun t128 => (some t128)) = some r := by rw [if_pos rfl] at H; exact H
         clear H
         have H := H1
         clear H1
         replace H := Option.bind_eq_some_iff.mp H
         obtain ⟨t128, A100, H⟩ := H
         replace H : (some t128) = some r := H
         have A10 := Aside0.mk A100
         clear A100
         obtain rfl := Option.some.inj H
         go_enter Tryz.func46, Tryz.ntmps46
         go_wp2_with (first | ((with_reducible refine gate_dst (N := 1) rfl ?_); refine box_event ?hg (N := 1) ?hd (cs := #[.int .i64 a0_0, .int .i64 a0_1, .int .i64 a0_2, .int .i64 a0_3, .int .i64 a0_4]) (t := 48) ?hr ?_; (case hd => rfl); (case hg => rfl); (case hr => first | (go_simp; done) | (go_simp; rfl)); intro gb123 hg w11 hbox hb; have n0_ := Aside0.mk (below_step (by repeat (first | (with_reducible first | exact HB.out | apply below_alloc | apply pw_below_drewN | apply below_drew1) | exact HB.out)) hb); have n1_ := Aside0.mk (hbox); have n2_ := Aside0.mk ((by rw [hg]; exact (below_size (by repeat (first | (with_reducible first | exact HB.out | apply below_alloc | apply pw_below_drewN | apply below_drew1) | exact HB.out))) : w.heap.size ≤ gb123)); have n3_ := Aside0.mk ((by rw [hg]; exact (below_size (by repeat (first | (with_reducible first | exact HB.out | apply below_alloc | apply pw_below_drewN | apply below_drew1) | exact HB.out))) : w.heap.size ≤ gb123)); clear HB; have HB := n0_; have BK123 := n1_; have GW123 := n2_; have GE123 := n3_; clear n0_ n1_ n2_ n3_; clear hb hbox hg; have hcz12_0 : w11.cell? ⟨gb123, 0, none⟩ = some (.int .i64 a0_0) := (blk_cell BK123.out 0).trans rfl; have hcz12_1 : w11.cell? ⟨gb123, 1, none⟩ = some (.int .i64 a0_1) := (blk_cell BK123.out 1).trans rfl; have hcz12_2 : w11.cell? ⟨gb123, 2, none⟩ = some (.int .i64 a0_2) := (blk_cell BK123.out 2).trans rfl; have hcz12_3 : w11.cell? ⟨gb123, 3, none⟩ = some (.int .i64 a0_3) := (blk_cell BK123.out 3).trans rfl; have hcz12_4 : w11.cell? ⟨gb123, 4, none⟩ = some (.int .i64 a0_4) := (blk_cell BK123.out 4).trans rfl; have hfz12_0 := blk_frozen BK123.out 0; have hfz12_1 := blk_frozen BK123.out 1; have hfz12_2 := blk_frozen BK123.out 2; have hfz12_3 := blk_frozen BK123.out 3; have hfz12_4 := blk_frozen BK123.out 4) | ((with_reducible refine gate_callee (f := 48) rfl ?_); refine goesL_ (some 6) rfl rfl Tryz.func48 (by kernel_rfl) rfl #[.int .i64 a0_0] rfl (by (try simp only [List.map_toArray, List.map_cons, List.map_nil]); first | done | rfl | (simp only [List.length_drop, List.length_take]; rfl)) ?_; (with_reducible refine (spec_FormOf.calls a0_0 t124 _ A2.out).mono ?_); rintro e w13 ⟨rfl, hb⟩; refine ⟨_, rfl, ?_⟩; have n0_ := Aside0.mk (blk_below (g := gb123) (o := .cells #[.int .i64 a0_0, .int .i64 a0_1, .int .i64 a0_2, .int .i64 a0_3, .int .i64 a0_4] 48 (0, 0)) (by (with_reducible repeat (first | refine blk_drewN ?_ _ | refine blk_drew ?_ | refine blk_alloc ?_ _)); exact BK123.out) hb); have n1_ := Aside0.mk (below_step (by repeat (first | (with_reducible first | exact HB.out | apply below_alloc | apply pw_below_drewN | apply below_drew1 | refine below_set ?_ GE123.out) | exact HB.out)) hb); clear BK123; clear HB; have BK123 := n0_; have HB := n1_; clear n0_ n1_; (try clear hb); (try clear hb2); (try clear hk); (try clear hi); have hcz14_0 : w13.cell? ⟨gb123, 0, none⟩ = some (.int .i64 a0_0) := (blk_cell BK123.out 0).trans rfl; have hcz14_1 : w13.cell? ⟨gb123, 1, none⟩ = some (.int .i64 a0_1) := (blk_cell BK123.out 1).trans rfl; have hcz14_2 : w13.cell? ⟨gb123, 2, none⟩ = some (.int .i64 a0_2) := (blk_cell BK123.out 2).trans rfl; have hcz14_3 : w13.cell? ⟨gb123, 3, none⟩ = some (.int .i64 a0_3) := (blk_cell BK123.out 3).trans rfl; have hcz14_4 : w13.cell? ⟨gb123, 4, none⟩ = some (.int .i64 a0_4) := (blk_cell BK123.out 4).trans rfl; have hfz14_0 := blk_frozen BK123.out 0; have hfz14_1 := blk_frozen BK123.out 1; have hfz14_2 := blk_frozen BK123.out 2; have hfz14_3 := blk_frozen BK123.out 3; have hfz14_4 := blk_frozen BK123.out 4) | (go_at_call 76; (with_reducible refine (spec_l02Field.calls t124 1 a0_1 0 15 true _ A4.out).mono ?_); rintro e w' ⟨rfl, ⟨nd, rfl⟩⟩) | (go_at_call 76; (with_reducible refine (spec_l02Field.calls t124 2 a0_2 0 15 true _ A6.out).mono ?_); rintro e w' ⟨rfl, ⟨nd, rfl⟩⟩) | (go_at_call 76; (with_reducible refine (spec_l02Field.calls t124 4 a0_3 0 15 true _ A8.out).mono ?_); rintro e w' ⟨rfl, ⟨nd, rfl⟩⟩) | (go_at_call 76; (with_reducible refine (spec_l02Field.calls t124 8 a0_4 (-8192) 8191 t128 _ A10.out).mono ?_); rintro e w' ⟨rfl, ⟨nd, rfl⟩⟩))
         go_ret
         exact ⟨by first | rfl | (simp [errW_none, errW_some] <;> rfl) | (simp [*, errW_none, errW_some] <;> rfl), by repeat (first | (with_reducible first | exact HB.out | apply below_alloc | apply pw_below_drewN | apply below_drew1 | refine below_set ?_ GE123.out) | exact HB.out)⟩
       · replace c9 := Bool.eq_false_iff.mpr c9
         subst c9
         have H1 : (some false) = some r := by rw [if_neg (show ¬ (false = true) by decide)] at H; exact H
         clear H
         have H := H1
         clear H1
         obtain rfl := Option.some.inj H
         go_enter Tryz.func46, Tryz.ntmps46
         go_wp2_with (first | ((with_reducible refine gate_dst (N := 1) rfl ?_); refine box_event ?hg (N := 1) ?hd (cs := #[.int .i64 a0_0, .int .i64 a0_1, .int .i64 a0_2, .int .i64 a0_3, .int .i64 a0_4]) (t := 48) ?hr ?_; (case hd => rfl); (case hg => rfl); (case hr => first | (go_simp; done) | (go_simp; rfl)); intro gb123 hg w15 hbox hb; have n0_ := Aside0.mk (below_step (by repeat (first | (with_reducible first | exact HB.out | apply below_alloc | apply pw_below_drewN | apply below_drew1) | exact HB.out)) hb); have n1_ := Aside0.mk (hbox); have n2_ := Aside0.mk ((by rw [hg]; exact (below_size (by repeat (first | (with_reducible first | exact HB.out | apply below_alloc | apply pw_below_drewN | apply below_drew1) | exact HB.out))) : w.heap.size ≤ gb123)); have n3_ := Aside0.mk ((by rw [hg]; exact (below_size (by repeat (first | (with_reducible first | exact HB.out | apply below_alloc | apply pw_below_drewN | apply below_drew1) | exact HB.out))) : w.heap.size ≤ gb123)); clear HB; have HB := n0_; have BK123 := n1_; have GW123 := n2_; have GE123 := n3_; clear n0_ n1_ n2_ n3_; clear hb hbox hg; have hcz16_0 : w15.cell? ⟨gb123, 0, none⟩ = some (.int .i64 a0_0) := (blk_cell BK123.out 0).trans rfl; have hcz16_1 : w15.cell? ⟨gb123, 1, none⟩ = some (.int .i64 a0_1) := (blk_cell BK123.out 1).trans rfl; have hcz16_2 : w15.cell? ⟨gb123, 2, none⟩ = some (.int .i64 a0_2) := (blk_cell BK123.out 2).trans rfl; have hcz16_3 : w15.cell? ⟨gb123, 3, none⟩ = some (.int .i64 a0_3) := (blk_cell BK123.out 3).trans rfl; have hcz16_4 : w15.cell? ⟨gb123, 4, none⟩ = some (.int .i64 a0_4) := (blk_cell BK123.out 4).trans rfl; have hfz16_0 := blk_frozen BK123.out 0; have hfz16_1 := blk_frozen BK123.out 1; have hfz16_2 := blk_frozen BK123.out 2; have hfz16_3 := blk_frozen BK123.out 3; have hfz16_4 := blk_frozen BK123.out 4) | ((with_reducible refine gate_callee (f := 48) rfl ?_); refine goesL_ (some 6) rfl rfl Tryz.func48 (by kernel_rfl) rfl #[.int .i64 a0_0] rfl (by (try simp only [List.map_toArray, List.map_cons, List.map_nil]); first | done | rfl | (simp only [List.length_drop, List.length_take]; rfl)) ?_; (with_reducible refine (spec_FormOf.calls a0_0 t124 _ A2.out).mono ?_); rintro e w17 ⟨rfl, hb⟩; refine ⟨_, rfl, ?_⟩; have n0_ := Aside0.mk (blk_below (g := gb123) (o := .cells #[.int .i64 a0_0, .int .i64 a0_1, .int .i64 a0_2, .int .i64 a0_3, .int .i64 a0_4] 48 (0, 0)) (by (with_reducible repeat (first | refine blk_drewN ?_ _ | refine blk_drew ?_ | refine blk_alloc ?_ _)); exact BK123.out) hb); have n1_ := Aside0.mk (below_step (by repeat (first | (with_reducible first | exact HB.out | apply below_alloc | apply pw_below_drewN | apply below_drew1 | refine below_set ?_ GE123.out) | exact HB.out)) hb); clear BK123; clear HB; have BK123 := n0_; have HB := n1_; clear n0_ n1_; (try clear hb); (try clear hb2); (try clear hk); (try clear hi); have hcz18_0 : w17.cell? ⟨gb123, 0, none⟩ = some (.int .i64 a0_0) := (blk_cell BK123.out 0).trans rfl; have hcz18_1 : w17.cell? ⟨gb123, 1, none⟩ = some (.int .i64 a0_1) := (blk_cell BK123.out 1).trans rfl; have hcz18_2 : w17.cell? ⟨gb123, 2, none⟩ = some (.int .i64 a0_2) := (blk_cell BK123.out 2).trans rfl; have hcz18_3 : w17.cell? ⟨gb123, 3, none⟩ = some (.int .i64 a0_3) := (blk_cell BK123.out 3).trans rfl; have hcz18_4 : w17.cell? ⟨gb123, 4, none⟩ = some (.int .i64 a0_4) := (blk_cell BK123.out 4).trans rfl; have hfz18_0 := blk_frozen BK123.out 0; have hfz18_1 := blk_frozen BK123.out 1; have hfz18_2 := blk_frozen BK123.out 2; have hfz18_3 := blk_frozen BK123.out 3; have hfz18_4 := blk_frozen BK123.out 4) | (go_at_call 76; (with_reducible refine (spec_l02Field.calls t124 1 a0_1 0 15 true _ A4.out).mono ?_); rintro e w' ⟨rfl, ⟨nd, rfl⟩⟩) | (go_at_call 76; (with_reducible refine (spec_l02Field.calls t124 2 a0_2 0 15 true _ A6.out).mono ?_); rintro e w' ⟨rfl, ⟨nd, rfl⟩⟩) | (go_at_call 76; (with_reducible refine (spec_l02Field.calls t124 4 a0_3 0 15 false _ A8.out).mono ?_); rintro e w' ⟨rfl, ⟨nd, rfl⟩⟩))
         go_ret
         exact ⟨by first | rfl | (simp [errW_none, errW_some] <;> rfl) | (simp [*, errW_none, errW_some] <;> rfl), by repeat (first | (with_reducible first | exact HB.out | apply below_alloc | apply pw_below_drewN | apply below_drew1 | refine below_set ?_ GE123.out) | exact HB.out)⟩
     · replace c7 := Bool.eq_false_iff.mpr c7
       subst c7
       have H1 : (some false) = some r := by rw [if_neg (show ¬ (false = true) by decide)] at H; exact H
       clear H
       have H := H1
       clear H1
       obtain rfl := Option.some.inj H
       go_enter Tryz.func46, Tryz.ntmps46
       go_wp2_with (first | ((with_reducible refine gate_dst (N := 1) rfl ?_); refine box_event ?hg (N := 1) ?hd (cs := #[.int .i64 a0_0, .int .i64 a0_1, .int .i64 a0_2, .int .i64 a0_3, .int .i64 a0_4]) (t := 48) ?hr ?_; (case hd => rfl); (case hg => rfl); (case hr => first | (go_simp; done) | (go_simp; rfl)); intro gb123 hg w19 hbox hb; have n0_ := Aside0.mk (below_step (by repeat (first | (with_reducible first | exact HB.out | apply below_alloc | apply pw_below_drewN | apply below_drew1) | exact HB.out)) hb); have n1_ := Aside0.mk (hbox); have n2_ := Aside0.mk ((by rw [hg]; exact (below_size (by repeat (first | (with_reducible first | exact HB.out | apply below_alloc | apply pw_below_drewN | apply below_drew1) | exact HB.out))) : w.heap.size ≤ gb123)); have n3_ := Aside0.mk ((by rw [hg]; exact (below_size (by repeat (first | (with_reducible first | exact HB.out | apply below_alloc | apply pw_below_drewN | apply below_drew1) | exact HB.out))) : w.heap.size ≤ gb123)); clear HB; have HB := n0_; have BK123 := n1_; have GW123 := n2_; have GE123 := n3_; clear n0_ n1_ n2_ n3_; clear hb hbox hg; have hcz20_0 : w19.cell? ⟨gb123, 0, none⟩ = some (.int .i64 a0_0) := (blk_cell BK123.out 0).trans rfl; have hcz20_1 : w19.cell? ⟨gb123, 1, none⟩ = some (.int .i64 a0_1) := (blk_cell BK123.out 1).trans rfl; have hcz20_2 : w19.cell? ⟨gb123, 2, none⟩ = some (.int .i64 a0_2) := (blk_cell BK123.out 2).trans rfl; have hcz20_3 : w19.cell? ⟨gb123, 3, none⟩ = some (.int .i64 a0_3) := (blk_cell BK123.out 3).trans rfl; have hcz20_4 : w19.cell? ⟨gb123, 4, none⟩ = some (.int .i64 a0_4) := (blk_cell BK123.out 4).trans rfl; have hfz20_0 := blk_frozen BK123.out 0; have hfz20_1 := blk_frozen BK123.out 1; have hfz20_2 := blk_frozen BK123.out 2; have hfz20_3 := blk_frozen BK123.out 3; have hfz20_4 := blk_frozen BK123.out 4) | ((with_reducible refine gate_callee (f := 48) rfl ?_); refine goesL_ (some 6) rfl rfl Tryz.func48 (by kernel_rfl) rfl #[.int .i64 a0_0] rfl (by (try simp only [List.map_toArray, List.map_cons, List.map_nil]); first | done | rfl | (simp only [List.length_drop, List.length_take]; rfl)) ?_; (with_reducible refine (spec_FormOf.calls a0_0 t124 _ A2.out).mono ?_); rintro e w21 ⟨rfl, hb⟩; refine ⟨_, rfl, ?_⟩; have n0_ := Aside0.mk (blk_below (g := gb123) (o := .cells #[.int .i64 a0_0, .int .i64 a0_1, .int .i64 a0_2, .int .i64 a0_3, .int .i64 a0_4] 48 (0, 0)) (by (with_reducible repeat (first | refine blk_drewN ?_ _ | refine blk_drew ?_ | refine blk_alloc ?_ _)); exact BK123.out) hb); have n1_ := Aside0.mk (below_step (by repeat (first | (with_reducible first | exact HB.out | apply below_alloc | apply pw_below_drewN | apply below_drew1 | refine below_set ?_ GE123.out) | exact HB.out)) hb); clear BK123; clear HB; have BK123 := n0_; have HB := n1_; clear n0_ n1_; (try clear hb); (try clear hb2); (try clear hk); (try clear hi); have hcz22_0 : w21.cell? ⟨gb123, 0, none⟩ = some (.int .i64 a0_0) := (blk_cell BK123.out 0).trans rfl; have hcz22_1 : w21.cell? ⟨gb123, 1, none⟩ = some (.int .i64 a0_1) := (blk_cell BK123.out 1).trans rfl; have hcz22_2 : w21.cell? ⟨gb123, 2, none⟩ = some (.int .i64 a0_2) := (blk_cell BK123.out 2).trans rfl; have hcz22_3 : w21.cell? ⟨gb123, 3, none⟩ = some (.int .i64 a0_3) := (blk_cell BK123.out 3).trans rfl; have hcz22_4 : w21.cell? ⟨gb123, 4, none⟩ = some (.int .i64 a0_4) := (blk_cell BK123.out 4).trans rfl; have hfz22_0 := blk_frozen BK123.out 0; have hfz22_1 := blk_frozen BK123.out 1; have hfz22_2 := blk_frozen BK123.out 2; have hfz22_3 := blk_frozen BK123.out 3; have hfz22_4 := blk_frozen BK123.out 4) | (go_at_call 76; (with_reducible refine (spec_l02Field.calls t124 1 a0_1 0 15 true _ A4.out).mono ?_); rintro e w' ⟨rfl, ⟨nd, rfl⟩⟩) | (go_at_call 76; (with_reducible refine (spec_l02Field.calls t124 2 a0_2 0 15 false _ A6.out).mono ?_); rintro e w' ⟨rfl, ⟨nd, rfl⟩⟩))
       go_ret
       exact ⟨by first | rfl | (simp [errW_none, errW_some] <;> rfl) | (simp [*, errW_none, errW_some] <;> rfl), by repeat (first | (with_reducible first | exact HB.out | apply below_alloc | apply pw_below_drewN | apply below_drew1 | refine below_set ?_ GE123.out) | exact HB.out)⟩
   · replace c5 := Bool.eq_false_iff.mpr c5
     subst c5
     have H1 : (some false) = some r := by rw [if_neg (show ¬ (false = true) by decide)] at H; exact H
     clear H
     have H := H1
     clear H1
     obtain rfl := Option.some.inj H
     go_enter Tryz.func46, Tryz.ntmps46
     go_wp2_with (first | ((with_reducible refine gate_dst (N := 1) rfl ?_); refine box_event ?hg (N := 1) ?hd (cs := #[.int .i64 a0_0, .int .i64 a0_1, .int .i64 a0_2, .int .i64 a0_3, .int .i64 a0_4]) (t := 48) ?hr ?_; (case hd => rfl); (case hg => rfl); (case hr => first | (go_simp; done) | (go_simp; rfl)); intro gb123 hg w23 hbox hb; have n0_ := Aside0.mk (below_step (by repeat (first | (with_reducible first | exact HB.out | apply below_alloc | apply pw_below_drewN | apply below_drew1) | exact HB.out)) hb); have n1_ := Aside0.mk (hbox); have n2_ := Aside0.mk ((by rw [hg]; exact (below_size (by repeat (first | (with_reducible first | exact HB.out | apply below_alloc | apply pw_below_drewN | apply below_drew1) | exact HB.out))) : w.heap.size ≤ gb123)); have n3_ := Aside0.mk ((by rw [hg]; exact (below_size (by repeat (first | (with_reducible first | exact HB.out | apply below_alloc | apply pw_below_drewN | apply below_drew1) | exact HB.out))) : w.heap.size ≤ gb123)); clear HB; have HB := n0_; have BK123 := n1_; have GW123 := n2_; have GE123 := n3_; clear n0_ n1_ n2_ n3_; clear hb hbox hg; have hcz24_0 : w23.cell? ⟨gb123, 0, none⟩ = some (.int .i64 a0_0) := (blk_cell BK123.out 0).trans rfl; have hcz24_1 : w23.cell? ⟨gb123, 1, none⟩ = some (.int .i64 a0_1) := (blk_cell BK123.out 1).trans rfl; have hcz24_2 : w23.cell? ⟨gb123, 2, none⟩ = some (.int .i64 a0_2) := (blk_cell BK123.out 2).trans rfl; have hcz24_3 : w23.cell? ⟨gb123, 3, none⟩ = some (.int .i64 a0_3) := (blk_cell BK123.out 3).trans rfl; have hcz24_4 : w23.cell? ⟨gb123, 4, none⟩ = some (.int .i64 a0_4) := (blk_cell BK123.out 4).trans rfl; have hfz24_0 := blk_frozen BK123.out 0; have hfz24_1 := blk_frozen BK123.out 1; have hfz24_2 := blk_frozen BK123.out 2; have hfz24_3 := blk_frozen BK123.out 3; have hfz24_4 := blk_frozen BK123.out 4) | ((with_reducible refine gate_callee (f := 48) rfl ?_); refine goesL_ (some 6) rfl rfl Tryz.func48 (by kernel_rfl) rfl #[.int .i64 a0_0] rfl (by (try simp only [List.map_toArray, List.map_cons, List.map_nil]); first | done | rfl | (simp only [List.length_drop, List.length_take]; rfl)) ?_; (with_reducible refine (spec_FormOf.calls a0_0 t124 _ A2.out).mono ?_); rintro e w25 ⟨rfl, hb⟩; refine ⟨_, rfl, ?_⟩; have n0_ := Aside0.mk (blk_below (g := gb123) (o := .cells #[.int .i64 a0_0, .int .i64 a0_1, .int .i64 a0_2, .int .i64 a0_3, .int .i64 a0_4] 48 (0, 0)) (by (with_reducible repeat (first | refine blk_drewN ?_ _ | refine blk_drew ?_ | refine blk_alloc ?_ _)); exact BK123.out) hb); have n1_ := Aside0.mk (below_step (by repeat (first | (with_reducible first | exact HB.out | apply below_alloc | apply pw_below_drewN | apply below_drew1 | refine below_set ?_ GE123.out) | exact HB.out)) hb); clear BK123; clear HB; have BK123 := n0_; have HB := n1_; clear n0_ n1_; (try clear hb); (try clear hb2); (try clear hk); (try clear hi); have hcz26_0 : w25.cell? ⟨gb123, 0, none⟩ = some (.int .i64 a0_0) := (blk_cell BK123.out 0).trans rfl; have hcz26_1 : w25.cell? ⟨gb123, 1, none⟩ = some (.int .i64 a0_1) := (blk_cell BK123.out 1).trans rfl; have hcz26_2 : w25.cell? ⟨gb123, 2, none⟩ = some (.int .i64 a0_2) := (blk_cell BK123.out 2).trans rfl; have hcz26_3 : w25.cell? ⟨gb123, 3, none⟩ = some (.int .i64 a0_3) := (blk_cell BK123.out 3).trans rfl; have hcz26_4 : w25.cell? ⟨gb123, 4, none⟩ = some (.int .i64 a0_4) := (blk_cell BK123.out 4).trans rfl; have hfz26_0 := blk_frozen BK123.out 0; have hfz26_1 := blk_frozen BK123.out 1; have hfz26_2 := blk_frozen BK123.out 2; have hfz26_3 := blk_frozen BK123.out 3; have hfz26_4 := blk_frozen BK123.out 4) | (go_at_call 76; (with_reducible refine (spec_l02Field.calls t124 1 a0_1 0 15 false _ A4.out).mono ?_); rintro e w' ⟨rfl, ⟨nd, rfl⟩⟩))
     go_ret
     exact ⟨by first | rfl | (simp [errW_none, errW_some] <;> rfl) | (simp [*, errW_none, errW_some] <;> rfl), by repeat (first | (with_reducible first | exact HB.out | apply below_alloc | apply pw_below_drewN | apply below_drew1 | refine below_set ?_ GE123.out) | exact HB.out)⟩
 · rw [if_neg c3] at H
   have c3b0 : decide (0 ≤ t124) = false := decide_eq_false c3
   clear c3
   obtain rfl := Option.some.inj H
   go_enter Tryz.func46, Tryz.ntmps46
   go_wp2_with (first | ((with_reducible refine gate_dst (N := 1) rfl ?_); refine box_event ?hg (N := 1) ?hd (cs := #[.int .i64 a0_0, .int .i64 a0_1, .int .i64 a0_2, .int .i64 a0_3, .int .i64 a0_4]) (t := 48) ?hr ?_; (case hd => rfl); (case hg => rfl); (case hr => first | (go_simp; done) | (go_simp; rfl)); intro gb123 hg w27 hbox hb; have n0_ := Aside0.mk (below_step (by repeat (first | (with_reducible first | exact HB.out | apply below_alloc | apply pw_below_drewN | apply below_drew1) | exact HB.out)) hb); have n1_ := Aside0.mk (hbox); have n2_ := Aside0.mk ((by rw [hg]; exact (below_size (by repeat (first | (with_reducible first | exact HB.out | apply below_alloc | apply pw_below_drewN | apply below_drew1) | exact HB.out))) : w.heap.size ≤ gb123)); have n3_ := Aside0.mk ((by rw [hg]; exact (below_size (by repeat (first | (with_reducible first | exact HB.out | apply below_alloc | apply pw_below_drewN | apply below_drew1) | exact HB.out))) : w.heap.size ≤ gb123)); clear HB; have HB := n0_; have BK123 := n1_; have GW123 := n2_; have GE123 := n3_; clear n0_ n1_ n2_ n3_; clear hb hbox hg; have hcz28_0 : w27.cell? ⟨gb123, 0, none⟩ = some (.int .i64 a0_0) := (blk_cell BK123.out 0).trans rfl; have hcz28_1 : w27.cell? ⟨gb123, 1, none⟩ = some (.int .i64 a0_1) := (blk_cell BK123.out 1).trans rfl; have hcz28_2 : w27.cell? ⟨gb123, 2, none⟩ = some (.int .i64 a0_2) := (blk_cell BK123.out 2).trans rfl; have hcz28_3 : w27.cell? ⟨gb123, 3, none⟩ = some (.int .i64 a0_3) := (blk_cell BK123.out 3).trans rfl; have hcz28_4 : w27.cell? ⟨gb123, 4, none⟩ = some (.int .i64 a0_4) := (blk_cell BK123.out 4).trans rfl; have hfz28_0 := blk_frozen BK123.out 0; have hfz28_1 := blk_frozen BK123.out 1; have hfz28_2 := blk_frozen BK123.out 2; have hfz28_3 := blk_frozen BK123.out 3; have hfz28_4 := blk_frozen BK123.out 4) | ((with_reducible refine gate_callee (f := 48) rfl ?_); refine goesL_ (some 6) rfl rfl Tryz.func48 (by kernel_rfl) rfl #[.int .i64 a0_0] rfl (by (try simp only [List.map_toArray, List.map_cons, List.map_nil]); first | done | rfl | (simp only [List.length_drop, List.length_take]; rfl)) ?_; (with_reducible refine (spec_FormOf.calls a0_0 t124 _ A2.out).mono ?_); rintro e w29 ⟨rfl, hb⟩; refine ⟨_, rfl, ?_⟩; have n0_ := Aside0.mk (blk_below (g := gb123) (o := .cells #[.int .i64 a0_0, .int .i64 a0_1, .int .i64 a0_2, .int .i64 a0_3, .int .i64 a0_4] 48 (0, 0)) (by (with_reducible repeat (first | refine blk_drewN ?_ _ | refine blk_drew ?_ | refine blk_alloc ?_ _)); exact BK123.out) hb); have n1_ := Aside0.mk (below_step (by repeat (first | (with_reducible first | exact HB.out | apply below_alloc | apply pw_below_drewN | apply below_drew1 | refine below_set ?_ GE123.out) | exact HB.out)) hb); clear BK123; clear HB; have BK123 := n0_; have HB := n1_; clear n0_ n1_; (try clear hb); (try clear hb2); (try clear hk); (try clear hi)))
   go_ret
   exact ⟨by first | rfl | (simp [errW_none, errW_some] <;> rfl) | (simp [*, errW_none, errW_some] <;> rfl), by repeat (first | (with_reducible first | exact HB.out | apply below_alloc | apply pw_below_drewN | apply below_drew1 | refine below_set ?_ GE123.out) | exact HB.out)⟩

/-! ### spec_l01Mod: function 47 -/
def spec_l01Mod.f (a0 : Int) (a1 : Int) : Option (Int) := if a1 = 0 then (none) else (if (Int.tmod a0 a1) < 0 then (some (wrap64 ((Int.tmod a0 a1) + a1))) else (some (Int.tmod a0 a1)))
set_option maxHeartbeats 8000000 in
set_option maxRecDepth 100000 in
theorem spec_l01Mod.calls (a0 : Int) (a1 : Int) (r : Int) (w : World) (h : spec_l01Mod.f a0 a1 = some r) :
 Calls Tryz.prog 47 #[.int .i64 a0, .int .i64 a1] w fun e w' => e = .returned (.int .i64 r) ∧ Drawn0 w w' := by
 have H : (if a1 = 0 then (none) else (if (Int.tmod a0 a1) < 0 then (some (wrap64 ((Int.tmod a0 a1) + a1))) else (some (Int.tmod a0 a1)))) = some r := h
 clear h
 by_cases c3 : a1 = 0
 · rw [if_pos c3] at H
   exact absurd H (by simp)
 · rw [if_neg c3] at H
   have c3b0 : (a1 == 0) = false := beq_eq_false_iff_ne.mpr c3
   have c3b1 : (a1 != 0) = true := bne_iff_ne.mpr c3
   by_cases c4 : (Int.tmod a0 a1) < 0
   · rw [if_pos c4] at H
     have c4b0 : decide ((Int.tmod a0 a1) < 0) = true := decide_eq_true c4
     clear c4
     obtain rfl := Option.some.inj H
     go_enter Tryz.func47, Tryz.ntmps47
     go_wp2
     go_ret
     exact ⟨by first | rfl | (simp; done) | (simp [*]; done), by repeat (first | exact Drawn0.refl _ | apply Drawn0.step)⟩
   · rw [if_neg c4] at H
     have c4b0 : decide ((Int.tmod a0 a1) < 0) = false := decide_eq_false c4
     clear c4
     obtain rfl := Option.some.inj H
     go_enter Tryz.func47, Tryz.ntmps47
     go_wp2
     go_ret
     exact ⟨by first | rfl | (simp; done) | (simp [*]; done), by repeat (first | exact Drawn0.refl _ | apply Drawn0.step)⟩

/-! ### spec_Encode: function 25 -/
def spec_Encode.f (a0_0 : Int) (a0_1 : Int) (a0_2 : Int) (a0_3 : Int) (a0_4 : Int) : Option (Int × Bool) := (spec_InstrOk.f a0_0 a0_1 a0_2 a0_3 a0_4).bind fun t130 => (if t130 = true then ((spec_l01Mod.f a0_4 16384).bind fun t131 => (some ((wrap64 ((wrap64 ((wrap64 ((wrap64 ((wrap64 (a0_0 * 67108864)) + (wrap64 (a0_1 * 4194304)))) + (wrap64 (a0_2 * 262144)))) + (wrap64 (a0_3 * 16384)))) + t131)) % 4294967296, true))) else (some (0, false)))
set_option maxHeartbeats 8000000 in
set_option maxRecDepth 100000 in
theorem spec_Encode.calls (a0_0 : Int) (a0_1 : Int) (a0_2 : Int) (a0_3 : Int) (a0_4 : Int) (r1 : Int) (r2 : Bool) (w : World) (h : spec_Encode.f a0_0 a0_1 a0_2 a0_3 a0_4 = some (r1, r2)) :
 Calls Tryz.prog 25 #[.agg #[.int .i64 a0_0, .int .i64 a0_1, .int .i64 a0_2, .int .i64 a0_3, .int .i64 a0_4]] w fun e w' => e = .returned (.tuple #[.int .u32 r1, .bool r2]) ∧ Below w.heap.size w w' := by
 have hu48 := Tryz.underlying48
 have HB := Aside0.mk (Below.refl w.heap.size w)
 have H : ((spec_InstrOk.f a0_0 a0_1 a0_2 a0_3 a0_4).bind fun t130 => (if t130 = true then ((spec_l01Mod.f a0_4 16384).bind fun t131 => (some ((wrap64 ((wrap64 ((wrap64 ((wrap64 ((wrap64 (a0_0 * 67108864)) + (wrap64 (a0_1 * 4194304)))) + (wrap64 (a0_2 * 262144)))) + (wrap64 (a0_3 * 16384)))) + t131)) % 4294967296, true))) else (some (0, false)))) = some (r1, r2) := h
 clear h
 replace H := Option.bind_eq_some_iff.mp H
 obtain ⟨t130, A20, H⟩ := H
 replace H : (if t130 = true then ((spec_l01Mod.f a0_4 16384).bind fun t131 => (some ((wrap64 ((wrap64 ((wrap64 ((wrap64 ((wrap64 (a0_0 * 67108864)) + (wrap64 (a0_1 * 4194304)))) + (wrap64 (a0_2 * 262144)))) + (wrap64 (a0_3 * 16384)))) + t131)) % 4294967296, true))) else (some (0, false))) = some (r1, r2) := H
 have A2 := Aside0.mk A20
 clear A20
 by_cases c3 : t130 = true
 · subst c3
   have H1 : ((spec_l01Mod.f a0_4 16384).bind fun t131 => (some ((wrap64 ((wrap64 ((wrap64 ((wrap64 ((wrap64 (a0_0 * 67108864)) + (wrap64 (a0_1 * 4194304)))) + (wrap64 (a0_2 * 262144)))) + (wrap64 (a0_3 * 16384)))) + t131)) % 4294967296, true))) = some (r1, r2) := by rw [if_pos rfl] at H; exact H
   clear H
   have H := H1
   clear H1
   replace H := Option.bind_eq_some_iff.mp H
   obtain ⟨t131, A40, H⟩ := H
   replace H : (some ((wrap64 ((wrap64 ((wrap64 ((wrap64 ((wrap64 (a0_0 * 67108864)) + (wrap64 (a0_1 * 4194304)))) + (wrap64 (a0_2 * 262144)))) + (wrap64 (a0_3 * 16384)))) + t131)) % 4294967296, true)) = some (r1, r2) := H
   have A4 := Aside0.mk A40
   clear A40
   simp only [Option.some.injEq, Prod.mk.injEq] at H
   obtain ⟨rfl, rfl⟩ := H
   go_enter Tryz.func25, Tryz.ntmps25
   go_wp2_with (first | ((with_reducible refine gate_dst (N := 1) rfl ?_); refine box_event ?hg (N := 1) ?hd (cs := #[.int .i64 a0_0, .int .i64 a0_1, .int .i64 a0_2, .int .i64 a0_3, .int .i64 a0_4]) (t := 48) ?hr ?_; (case hd => rfl); (case hg => rfl); (case hr => first | (go_simp; done) | (go_simp; rfl)); intro gb129 hg w5 hbox hb; have n0_ := Aside0.mk (below_step (by repeat (first | (with_reducible first | exact HB.out | apply below_alloc | apply pw_below_drewN | apply below_drew1) | exact HB.out)) hb); have n1_ := Aside0.mk (hbox); have n2_ := Aside0.mk ((by rw [hg]; exact (below_size (by repeat (first | (with_reducible first | exact HB.out | apply below_alloc | apply pw_below_drewN | apply below_drew1) | exact HB.out))) : w.heap.size ≤ gb129)); have n3_ := Aside0.mk ((by rw [hg]; exact (below_size (by repeat (first | (with_reducible first | exact HB.out | apply below_alloc | apply pw_below_drewN | apply below_drew1) | exact HB.out))) : w.heap.size ≤ gb129)); clear HB; have HB := n0_; have BK129 := n1_; have GW129 := n2_; have GE129 := n3_; clear n0_ n1_ n2_ n3_; clear hb hbox hg; have hcz6_0 : w5.cell? ⟨gb129, 0, none⟩ = some (.int .i64 a0_0) := (blk_cell BK129.out 0).trans rfl; have hcz6_1 : w5.cell? ⟨gb129, 1, none⟩ = some (.int .i64 a0_1) := (blk_cell BK129.out 1).trans rfl; have hcz6_2 : w5.cell? ⟨gb129, 2, none⟩ = some (.int .i64 a0_2) := (blk_cell BK129.out 2).trans rfl; have hcz6_3 : w5.cell? ⟨gb129, 3, none⟩ = some (.int .i64 a0_3) := (blk_cell BK129.out 3).trans rfl; have hcz6_4 : w5.cell? ⟨gb129, 4, none⟩ = some (.int .i64 a0_4) := (blk_cell BK129.out 4).trans rfl; have hfz6_0 := blk_frozen BK129.out 0; have hfz6_1 := blk_frozen BK129.out 1; have hfz6_2 := blk_frozen BK129.out 2; have hfz6_3 := blk_frozen BK129.out 3; have hfz6_4 := blk_frozen BK129.out 4) | (go_at_call 46; (with_reducible refine (spec_InstrOk.calls a0_0 a0_1 a0_2 a0_3 a0_4 true _ A2.out).mono ?_); rintro e w7 ⟨rfl, hb⟩; have n0_ := Aside0.mk (blk_below (g := gb129) (o := .cells #[.int .i64 a0_0, .int .i64 a0_1, .int .i64 a0_2, .int .i64 a0_3, .int .i64 a0_4] 48 (0, 0)) (by (with_reducible repeat (first | refine blk_drewN ?_ _ | refine blk_drew ?_ | refine blk_alloc ?_ _)); exact BK129.out) hb); have n1_ := Aside0.mk (below_step (by repeat (first | (with_reducible first | exact HB.out | apply below_alloc | apply pw_below_drewN | apply below_drew1 | refine below_set ?_ GE129.out) | exact HB.out)) hb); clear BK129; clear HB; have BK129 := n0_; have HB := n1_; clear n0_ n1_; (try clear hb); (try clear hb2); (try clear hk); (try clear hi); have hcz8_0 : w7.cell? ⟨gb129, 0, none⟩ = some (.int .i64 a0_0) := (blk_cell BK129.out 0).trans rfl; have hcz8_1 : w7.cell? ⟨gb129, 1, none⟩ = some (.int .i64 a0_1) := (blk_cell BK129.out 1).trans rfl; have hcz8_2 : w7.cell? ⟨gb129, 2, none⟩ = some (.int .i64 a0_2) := (blk_cell BK129.out 2).trans rfl; have hcz8_3 : w7.cell? ⟨gb129, 3, none⟩ = some (.int .i64 a0_3) := (blk_cell BK129.out 3).trans rfl; have hcz8_4 : w7.cell? ⟨gb129, 4, none⟩ = some (.int .i64 a0_4) := (blk_cell BK129.out 4).trans rfl; have hfz8_0 := blk_frozen BK129.out 0; have hfz8_1 := blk_frozen BK129.out 1; have hfz8_2 := blk_frozen BK129.out 2; have hfz8_3 := blk_frozen BK129.out 3; have hfz8_4 := blk_frozen BK129.out 4) | (go_at_call 47; (with_reducible refine (spec_l01Mod.calls a0_4 16384 t131 _ A4.out).mono ?_); rintro e w' ⟨rfl, ⟨nd, rfl⟩⟩; (try first | exact ⟨rfl, _, World.drewN_drewN _ _ _⟩ | exact ⟨rfl, _, Eq.trans (World.drewN_drewN _ _ _) (congrArg (World.drewN _) (Nat.add_assoc _ _ _))⟩)))
   repeat (go_quiet (first | ((with_reducible refine gate_dst (N := 1) rfl ?_); refine box_event ?hg (N := 1) ?hd (cs := #[.int .i64 a0_0, .int .i64 a0_1, .int .i64 a0_2, .int .i64 a0_3, .int .i64 a0_4]) (t := 48) ?hr ?_; (case hd => rfl); (case hg => rfl); (case hr => first | (go_simp; done) | (go_simp; rfl)); intro gb129 hg w5 hbox hb; have n0_ := Aside0.mk (below_step (by repeat (first | (with_reducible first | exact HB.out | apply below_alloc | apply pw_below_drewN | apply below_drew1) | exact HB.out)) hb); have n1_ := Aside0.mk (hbox); have n2_ := Aside0.mk ((by rw [hg]; exact (below_size (by repeat (first | (with_reducible first | exact HB.out | apply below_alloc | apply pw_below_drewN | apply below_drew1) | exact HB.out))) : w.heap.size ≤ gb129)); have n3_ := Aside0.mk ((by rw [hg]; exact (below_size (by repeat (first | (with_reducible first | exact HB.out | apply below_alloc | apply pw_below_drewN | apply below_drew1) | exact HB.out))) : w.heap.size ≤ gb129)); clear HB; have HB := n0_; have BK129 := n1_; have GW129 := n2_; have GE129 := n3_; clear n0_ n1_ n2_ n3_; clear hb hbox hg; have hcz6_0 : w5.cell? ⟨gb129, 0, none⟩ = some (.int .i64 a0_0) := (blk_cell BK129.out 0).trans rfl; have hcz6_1 : w5.cell? ⟨gb129, 1, none⟩ = some (.int .i64 a0_1) := (blk_cell BK129.out 1).trans rfl; have hcz6_2 : w5.cell? ⟨gb129, 2, none⟩ = some (.int .i64 a0_2) := (blk_cell BK129.out 2).trans rfl; have hcz6_3 : w5.cell? ⟨gb129, 3, none⟩ = some (.int .i64 a0_3) := (blk_cell BK129.out 3).trans rfl; have hcz6_4 : w5.cell? ⟨gb129, 4, none⟩ = some (.int .i64 a0_4) := (blk_cell BK129.out 4).trans rfl; have hfz6_0 := blk_frozen BK129.out 0; have hfz6_1 := blk_frozen BK129.out 1; have hfz6_2 := blk_frozen BK129.out 2; have hfz6_3 := blk_frozen BK129.out 3; have hfz6_4 := blk_frozen BK129.out 4) | (go_at_call 46; (with_reducible refine (spec_InstrOk.calls a0_0 a0_1 a0_2 a0_3 a0_4 true _ A2.out).mono ?_); rintro e w7 ⟨rfl, hb⟩; have n0_ := Aside0.mk (blk_below (g := gb129) (o := .cells #[.int .i64 a0_0, .int .i64 a0_1, .int .i64 a0_2, .int .i64 a0_3, .int .i64 a0_4] 48 (0, 0)) (by (with_reducible repeat (first | refine blk_drewN ?_ _ | refine blk_drew ?_ | refine blk_alloc ?_ _)); exact BK129.out) hb); have n1_ := Aside0.mk (below_step (by repeat (first | (with_reducible first | exact HB.out | apply below_alloc | apply pw_below_drewN | apply below_drew1 | refine below_set ?_ GE129.out) | exact HB.out)) hb); clear BK129; clear HB; have BK129 := n0_; have HB := n1_; clear n0_ n1_; (try clear hb); (try clear hb2); (try clear hk); (try clear hi); have hcz8_0 : w7.cell? ⟨gb129, 0, none⟩ = some (.int .i64 a0_0) := (blk_cell BK129.out 0).trans rfl; have hcz8_1 : w7.cell? ⟨gb129, 1, none⟩ = some (.int .i64 a0_1) := (blk_cell BK129.out 1).trans rfl; have hcz8_2 : w7.cell? ⟨gb129, 2, none⟩ = some (.int .i64 a0_2) := (blk_cell BK129.out 2).trans rfl; have hcz8_3 : w7.cell? ⟨gb129, 3, none⟩ = some (.int .i64 a0_3) := (blk_cell BK129.out 3).trans rfl; have hcz8_4 : w7.cell? ⟨gb129, 4, none⟩ = some (.int .i64 a0_4) := (blk_cell BK129.out 4).trans rfl; have hfz8_0 := blk_frozen BK129.out 0; have hfz8_1 := blk_frozen BK129.out 1; have hfz8_2 := blk_frozen BK129.out 2; have hfz8_3 := blk_frozen BK129.out 3; have hfz8_4 := blk_frozen BK129.out 4) | (go_at_call 47; (with_reducible refine (spec_l01Mod.calls a0_4 16384 t131 _ A4.out).mono ?_); rintro e w' ⟨rfl, ⟨nd, rfl⟩⟩; (try first | exact ⟨rfl, _, World.drewN_drewN _ _ _⟩ | exact ⟨rfl, _, Eq.trans (World.drewN_drewN _ _ _) (congrArg (World.drewN _) (Nat.add_assoc _ _ _))⟩))); try go_wp2_with (first | ((with_reducible refine gate_dst (N := 1) rfl ?_); refine box_event ?hg (N := 1) ?hd (cs := #[.int .i64 a0_0, .int .i64 a0_1, .int .i64 a0_2, .int .i64 a0_3, .int .i64 a0_4]) (t := 48) ?hr ?_; (case hd => rfl); (case hg => rfl); (case hr => first | (go_simp; done) | (go_simp; rfl)); intro gb129 hg w5 hbox hb; have n0_ := Aside0.mk (below_step (by repeat (first | (with_reducible first | exact HB.out | apply below_alloc | apply pw_below_drewN | apply below_drew1) | exact HB.out)) hb); have n1_ := Aside0.mk (hbox); have n2_ := Aside0.mk ((by rw [hg]; exact (below_size (by repeat (first | (with_reducible first | exact HB.out | apply below_alloc | apply pw_below_drewN | apply below_drew1) | exact HB.out))) : w.heap.size ≤ gb129)); have n3_ := Aside0.mk ((by rw [hg]; exact (below_size (by repeat (first | (with_reducible first | exact HB.out | apply below_alloc | apply pw_below_drewN | apply below_drew1) | exact HB.out))) : w.heap.size ≤ gb129)); clear HB; have HB := n0_; have BK129 := n1_; have GW129 := n2_; have GE129 := n3_; clear n0_ n1_ n2_ n3_; clear hb hbox hg; have hcz6_0 : w5.cell? ⟨gb129, 0, none⟩ = some (.int .i64 a0_0) := (blk_cell BK129.out 0).trans rfl; have hcz6_1 : w5.cell? ⟨gb129, 1, none⟩ = some (.int .i64 a0_1) := (blk_cell BK129.out 1).trans rfl; have hcz6_2 : w5.cell? ⟨gb129, 2, none⟩ = some (.int .i64 a0_2) := (blk_cell BK129.out 2).trans rfl; have hcz6_3 : w5.cell? ⟨gb129, 3, none⟩ = some (.int .i64 a0_3) := (blk_cell BK129.out 3).trans rfl; have hcz6_4 : w5.cell? ⟨gb129, 4, none⟩ = some (.int .i64 a0_4) := (blk_cell BK129.out 4).trans rfl; have hfz6_0 := blk_frozen BK129.out 0; have hfz6_1 := blk_frozen BK129.out 1; have hfz6_2 := blk_frozen BK129.out 2; have hfz6_3 := blk_frozen BK129.out 3; have hfz6_4 := blk_frozen BK129.out 4) | (go_at_call 46; (with_reducible refine (spec_InstrOk.calls a0_0 a0_1 a0_2 a0_3 a0_4 true _ A2.out).mono ?_); rintro e w7 ⟨rfl, hb⟩; have n0_ := Aside0.mk (blk_below (g := gb129) (o := .cells #[.int .i64 a0_0, .int .i64 a0_1, .int .i64 a0_2, .int .i64 a0_3, .int .i64 a0_4] 48 (0, 0)) (by (with_reducible repeat (first | refine blk_drewN ?_ _ | refine blk_drew ?_ | refine blk_alloc ?_ _)); exact BK129.out) hb); have n1_ := Aside0.mk (below_step (by repeat (first | (with_reducible first | exact HB.out | apply below_alloc | apply pw_below_drewN | apply below_drew1 | refine below_set ?_ GE129.out) | exact HB.out)) hb); clear BK129; clear HB; have BK129 := n0_; have HB := n1_; clear n0_ n1_; (try clear hb); (try clear hb2); (try clear hk); (try clear hi); have hcz8_0 : w7.cell? ⟨gb129, 0, none⟩ = some (.int .i64 a0_0) := (blk_cell BK129.out 0).trans rfl; have hcz8_1 : w7.cell? ⟨gb129, 1, none⟩ = some (.int .i64 a0_1) := (blk_cell BK129.out 1).trans rfl; have hcz8_2 : w7.cell? ⟨gb129, 2, none⟩ = some (.int .i64 a0_2) := (blk_cell BK129.out 2).trans rfl; have hcz8_3 : w7.cell? ⟨gb129, 3, none⟩ = some (.int .i64 a0_3) := (blk_cell BK129.out 3).trans rfl; have hcz8_4 : w7.cell? ⟨gb129, 4, none⟩ = some (.int .i64 a0_4) := (blk_cell BK129.out 4).trans rfl; have hfz8_0 := blk_frozen BK129.out 0; have hfz8_1 := blk_frozen BK129.out 1; have hfz8_2 := blk_frozen BK129.out 2; have hfz8_3 := blk_frozen BK129.out 3; have hfz8_4 := blk_frozen BK129.out 4) | (go_at_call 47; (with_reducible refine (spec_l01Mod.calls a0_4 16384 t131 _ A4.out).mono ?_); rintro e w' ⟨rfl, ⟨nd, rfl⟩⟩; (try first | exact ⟨rfl, _, World.drewN_drewN _ _ _⟩ | exact ⟨rfl, _, Eq.trans (World.drewN_drewN _ _ _) (congrArg (World.drewN _) (Nat.add_assoc _ _ _))⟩))))
   go_ret2
   exact ⟨by first | rfl | (simp [errW_none, errW_some] <;> rfl) | (simp [*, errW_none, errW_some] <;> rfl), by repeat (first | (with_reducible first | exact HB.out | apply below_alloc | apply pw_below_drewN | apply below_drew1 | refine below_set ?_ GE129.out) | exact HB.out)⟩
 · replace c3 := Bool.eq_false_iff.mpr c3
   subst c3
   have H1 : (some (0, false)) = some (r1, r2) := by rw [if_neg (show ¬ (false = true) by decide)] at H; exact H
   clear H
   have H := H1
   clear H1
   simp only [Option.some.injEq, Prod.mk.injEq] at H
   obtain ⟨rfl, rfl⟩ := H
   go_enter Tryz.func25, Tryz.ntmps25
   go_wp2_with (first | ((with_reducible refine gate_dst (N := 1) rfl ?_); refine box_event ?hg (N := 1) ?hd (cs := #[.int .i64 a0_0, .int .i64 a0_1, .int .i64 a0_2, .int .i64 a0_3, .int .i64 a0_4]) (t := 48) ?hr ?_; (case hd => rfl); (case hg => rfl); (case hr => first | (go_simp; done) | (go_simp; rfl)); intro gb129 hg w9 hbox hb; have n0_ := Aside0.mk (below_step (by repeat (first | (with_reducible first | exact HB.out | apply below_alloc | apply pw_below_drewN | apply below_drew1) | exact HB.out)) hb); have n1_ := Aside0.mk (hbox); have n2_ := Aside0.mk ((by rw [hg]; exact (below_size (by repeat (first | (with_reducible first | exact HB.out | apply below_alloc | apply pw_below_drewN | apply below_drew1) | exact HB.out))) : w.heap.size ≤ gb129)); have n3_ := Aside0.mk ((by rw [hg]; exact (below_size (by repeat (first | (with_reducible first | exact HB.out | apply below_alloc | apply pw_below_drewN | apply below_drew1) | exact HB.out))) : w.heap.size ≤ gb129)); clear HB; have HB := n0_; have BK129 := n1_; have GW129 := n2_; have GE129 := n3_; clear n0_ n1_ n2_ n3_; clear hb hbox hg; have hcz10_0 : w9.cell? ⟨gb129, 0, none⟩ = some (.int .i64 a0_0) := (blk_cell BK129.out 0).trans rfl; have hcz10_1 : w9.cell? ⟨gb129, 1, none⟩ = some (.int .i64 a0_1) := (blk_cell BK129.out 1).trans rfl; have hcz10_2 : w9.cell? ⟨gb129, 2, none⟩ = some (.int .i64 a0_2) := (blk_cell BK129.out 2).trans rfl; have hcz10_3 : w9.cell? ⟨gb129, 3, none⟩ = some (.int .i64 a0_3) := (blk_cell BK129.out 3).trans rfl; have hcz10_4 : w9.cell? ⟨gb129, 4, none⟩ = some (.int .i64 a0_4) := (blk_cell BK129.out 4).trans rfl; have hfz10_0 := blk_frozen BK129.out 0; have hfz10_1 := blk_frozen BK129.out 1; have hfz10_2 := blk_frozen BK129.out 2; have hfz10_3 := blk_frozen BK129.out 3; have hfz10_4 := blk_frozen BK129.out 4) | (go_at_call 46; (with_reducible refine (spec_InstrOk.calls a0_0 a0_1 a0_2 a0_3 a0_4 false _ A2.out).mono ?_); rintro e w11 ⟨rfl, hb⟩; have n0_ := Aside0.mk (blk_below (g := gb129) (o := .cells #[.int .i64 a0_0, .int .i64 a0_1, .int .i64 a0_2, .int .i64 a0_3, .int .i64 a0_4] 48 (0, 0)) (by (with_reducible repeat (first | refine blk_drewN ?_ _ | refine blk_drew ?_ | refine blk_alloc ?_ _)); exact BK129.out) hb); have n1_ := Aside0.mk (below_step (by repeat (first | (with_reducible first | exact HB.out | apply below_alloc | apply pw_below_drewN | apply below_drew1 | refine below_set ?_ GE129.out) | exact HB.out)) hb); clear BK129; clear HB; have BK129 := n0_; have HB := n1_; clear n0_ n1_; (try clear hb); (try clear hb2); (try clear hk); (try clear hi)))
   repeat (go_quiet (first | ((with_reducible refine gate_dst (N := 1) rfl ?_); refine box_event ?hg (N := 1) ?hd (cs := #[.int .i64 a0_0, .int .i64 a0_1, .int .i64 a0_2, .int .i64 a0_3, .int .i64 a0_4]) (t := 48) ?hr ?_; (case hd => rfl); (case hg => rfl); (case hr => first | (go_simp; done) | (go_simp; rfl)); intro gb129 hg w9 hbox hb; have n0_ := Aside0.mk (below_step (by repeat (first | (with_reducible first | exact HB.out | apply below_alloc | apply pw_below_drewN | apply below_drew1) | exact HB.out)) hb); have n1_ := Aside0.mk (hbox); have n2_ := Aside0.mk ((by rw [hg]; exact (below_size (by repeat (first | (with_reducible first | exact HB.out | apply below_alloc | apply pw_below_drewN | apply below_drew1) | exact HB.out))) : w.heap.size ≤ gb129)); have n3_ := Aside0.mk ((by rw [hg]; exact (below_size (by repeat (first | (with_reducible first | exact HB.out | apply below_alloc | apply pw_below_drewN | apply below_drew1) | exact HB.out))) : w.heap.size ≤ gb129)); clear HB; have HB := n0_; have BK129 := n1_; have GW129 := n2_; have GE129 := n3_; clear n0_ n1_ n2_ n3_; clear hb hbox hg; have hcz10_0 : w9.cell? ⟨gb129, 0, none⟩ = some (.int .i64 a0_0) := (blk_cell BK129.out 0).trans rfl; have hcz10_1 : w9.cell? ⟨gb129, 1, none⟩ = some (.int .i64 a0_1) := (blk_cell BK129.out 1).trans rfl; have hcz10_2 : w9.cell? ⟨gb129, 2, none⟩ = some (.int .i64 a0_2) := (blk_cell BK129.out 2).trans rfl; have hcz10_3 : w9.cell? ⟨gb129, 3, none⟩ = some (.int .i64 a0_3) := (blk_cell BK129.out 3).trans rfl; have hcz10_4 : w9.cell? ⟨gb129, 4, none⟩ = some (.int .i64 a0_4) := (blk_cell BK129.out 4).trans rfl; have hfz10_0 := blk_frozen BK129.out 0; have hfz10_1 := blk_frozen BK129.out 1; have hfz10_2 := blk_frozen BK129.out 2; have hfz10_3 := blk_frozen BK129.out 3; have hfz10_4 := blk_frozen BK129.out 4) | (go_at_call 46; (with_reducible refine (spec_InstrOk.calls a0_0 a0_1 a0_2 a0_3 a0_4 false _ A2.out).mono ?_); rintro e w11 ⟨rfl, hb⟩; have n0_ := Aside0.mk (blk_below (g := gb129) (o := .cells #[.int .i64 a0_0, .int .i64 a0_1, .int .i64 a0_2, .int .i64 a0_3, .int .i64 a0_4] 48 (0, 0)) (by (with_reducible repeat (first | refine blk_drewN ?_ _ | refine blk_drew ?_ | refine blk_alloc ?_ _)); exact BK129.out) hb); have n1_ := Aside0.mk (below_step (by repeat (first | (with_reducible first | exact HB.out | apply below_alloc | apply pw_below_drewN | apply below_drew1 | refine below_set ?_ GE129.out) | exact HB.out)) hb); clear BK129; clear HB; have BK129 := n0_; have HB := n1_; clear n0_ n1_; (try clear hb); (try clear hb2); (try clear hk); (try clear hi))); try go_wp2_with (first | ((with_reducible refine gate_dst (N := 1) rfl ?_); refine box_event ?hg (N := 1) ?hd (cs := #[.int .i64 a0_0, .int .i64 a0_1, .int .i64 a0_2, .int .i64 a0_3, .int .i64 a0_4]) (t := 48) ?hr ?_; (case hd => rfl); (case hg => rfl); (case hr => first | (go_simp; done) | (go_simp; rfl)); intro gb129 hg w9 hbox hb; have n0_ := Aside0.mk (below_step (by repeat (first | (with_reducible first | exact HB.out | apply below_alloc | apply pw_below_drewN | apply below_drew1) | exact HB.out)) hb); have n1_ := Aside0.mk (hbox); have n2_ := Aside0.mk ((by rw [hg]; exact (below_size (by repeat (first | (with_reducible first | exact HB.out | apply below_alloc | apply pw_below_drewN | apply below_drew1) | exact HB.out))) : w.heap.size ≤ gb129)); have n3_ := Aside0.mk ((by rw [hg]; exact (below_size (by repeat (first | (with_reducible first | exact HB.out | apply below_alloc | apply pw_below_drewN | apply below_drew1) | exact HB.out))) : w.heap.size ≤ gb129)); clear HB; have HB := n0_; have BK129 := n1_; have GW129 := n2_; have GE129 := n3_; clear n0_ n1_ n2_ n3_; clear hb hbox hg; have hcz10_0 : w9.cell? ⟨gb129, 0, none⟩ = some (.int .i64 a0_0) := (blk_cell BK129.out 0).trans rfl; have hcz10_1 : w9.cell? ⟨gb129, 1, none⟩ = some (.int .i64 a0_1) := (blk_cell BK129.out 1).trans rfl; have hcz10_2 : w9.cell? ⟨gb129, 2, none⟩ = some (.int .i64 a0_2) := (blk_cell BK129.out 2).trans rfl; have hcz10_3 : w9.cell? ⟨gb129, 3, none⟩ = some (.int .i64 a0_3) := (blk_cell BK129.out 3).trans rfl; have hcz10_4 : w9.cell? ⟨gb129, 4, none⟩ = some (.int .i64 a0_4) := (blk_cell BK129.out 4).trans rfl; have hfz10_0 := blk_frozen BK129.out 0; have hfz10_1 := blk_frozen BK129.out 1; have hfz10_2 := blk_frozen BK129.out 2; have hfz10_3 := blk_frozen BK129.out 3; have hfz10_4 := blk_frozen BK129.out 4) | (go_at_call 46; (with_reducible refine (spec_InstrOk.calls a0_0 a0_1 a0_2 a0_3 a0_4 false _ A2.out).mono ?_); rintro e w11 ⟨rfl, hb⟩; have n0_ := Aside0.mk (blk_below (g := gb129) (o := .cells #[.int .i64 a0_0, .int .i64 a0_1, .int .i64 a0_2, .int .i64 a0_3, .int .i64 a0_4] 48 (0, 0)) (by (with_reducible repeat (first | refine blk_drewN ?_ _ | refine blk_drew ?_ | refine blk_alloc ?_ _)); exact BK129.out) hb); have n1_ := Aside0.mk (below_step (by repeat (first | (with_reducible first | exact HB.out | apply below_alloc | apply pw_below_drewN | apply below_drew1 | refine below_set ?_ GE129.out) | exact HB.out)) hb); clear BK129; clear HB; have BK129 := n0_; have HB := n1_; clear n0_ n1_; (try clear hb); (try clear hb2); (try clear hk); (try clear hi))))
   go_ret2
   exact ⟨by first | rfl | (simp [errW_none, errW_some] <;> rfl) | (simp [*, errW_none, errW_some] <;> rfl), by repeat (first | (with_reducible first | exact HB.out | apply below_alloc | apply pw_below_drewN | apply below_drew1 | refine below_set ?_ GE129.out) | exact HB.out)⟩

end Go.Proofs.YtaophlekfepkgaaGreatDoor.PFnExactLabelsOf

/- Printed by a program out of the translation, with contracts of my own set in. -/
import Derived.Test.YtboginbepgopeaaPFnExactTlbRunx0
import Derived.Test.YtboginbepgopeaaPFnExactTlbRunx3
namespace Go.Proofs.Ytboginbepgopeaa.PFnExactTlbRun
open Go.RowKit Go.Proofs.YtboginbepgopeaaW.PrintWords Go.Proofs.YtboginbepgopeaaW.PrintLast Go.Proofs.YtboginbepgopeaaW.PrintMore
attribute [local go_sem] max2_int min2_int max_two min_two max_three min_three max_four min_four   -- for this text's walks alone
set_option linter.unusedVariables false
set_option linter.unusedSimpArgs false

/-! ### slices_Index_int_int: function 97 -/
def slices_Index_int_int.l0 : Nat → List Int → Int → Int → Int → Option (Int)
  | 0, _, _, _, _ => none
  | k + 1, x0, x1, x7, x8 => if x8 < x7 then (if 0 ≤ x8 then (if x8 < (x0.length : Int) then (if x1 = (rd x0 x8) then (some x8) else (slices_Index_int_int.l0 k x0 x1 x7 (wrap64 (x8 + 1)))) else (none)) else (none)) else (some (-1))
def slices_Index_int_int.f (k : Nat) (l0 : List Int) (a1 : Int) : Option (Int) := slices_Index_int_int.l0 k l0 a1 (l0.length : Int) 0
theorem slices_Index_int_int.mono_l : ∀ k, (∀ y0 y1 y2 y3, LeO (slices_Index_int_int.l0 k y0 y1 y2 y3) (slices_Index_int_int.l0 (k + 1) y0 y1 y2 y3))
  | 0 => fun _ _ _ _ r h => by simp [slices_Index_int_int.l0] at h
  | k + 1 => by
    have ih0 := slices_Index_int_int.mono_l k
    · intro y0 y1 y2 y3
      unfold slices_Index_int_int.l0
      repeat' first
      | (with_reducible exact ih0 _ _ _ _)
      | (with_reducible exact LeO.refl _)
      | (with_reducible exact LeO.none _)
      | (with_reducible refine LeO.ite ?_ ?_)
      | (with_reducible refine LeO.bind ?_ (fun _ => ?_))
      | exact ih0 _ _ _ _
      | exact LeO.none _
      | refine LeO.ite ?_ ?_
      | refine LeO.bind ?_ (fun _ => ?_)
theorem slices_Index_int_int.mono : ∀ a0 a1 k, LeO (slices_Index_int_int.f k a0 a1) (slices_Index_int_int.f (k + 1) a0 a1) := by
  intro a0 a1 k
  have ih0 := slices_Index_int_int.mono_l k
  unfold slices_Index_int_int.f
  repeat' first
      | (with_reducible exact ih0 _ _ _ _)
      | (with_reducible exact LeO.refl _)
      | (with_reducible exact LeO.none _)
      | (with_reducible refine LeO.ite ?_ ?_)
      | (with_reducible refine LeO.bind ?_ (fun _ => ?_))
      | exact ih0 _ _ _ _
      | exact LeO.none _
      | refine LeO.ite ?_ ?_
      | refine LeO.bind ?_ (fun _ => ?_)
set_option maxHeartbeats 8000000 in
set_option maxRecDepth 100000 in
theorem slices_Index_int_int.calls (k : Nat) (A0 : Option Addr) (c0 : Nat) (l0 : List Int) (a1 : Int) (r : Int) (w : World) (hr0 : Kd.C (Kd.int .i64) w A0 l0.length l0) (hc0 : l0.length ≤ c0) (h : slices_Index_int_int.f k l0 a1 = some r) :
    Calls Try.prog 97 #[.slice A0 l0.length c0, .int .i64 a1] w fun e w' => e = .returned (.int .i64 r) ∧ Drawn0 w w' := by
  have HR0 := Aside0.mk hr0
  have HC0 := Aside0.mk hc0
  clear hr0 hc0
  have H : (slices_Index_int_int.l0 k l0 a1 (l0.length : Int) 0) = some r := h
  clear h
  have H' := Aside0.mk H
  clear H
  go_enter Try.func97, Try.ntmps97
  go_wp2
  go_loopg [8] k (fun kq v8 w' => ∃ (x8_1 : Int), v8 = .int .i64 x8_1 ∧ Aside0 (slices_Index_int_int.l0 kq l0 a1 (l0.length : Int) x8_1 = some r) ∧ Aside0 (kq ≤ k) ∧ Drawn0 w w')
  case atStart => exact ⟨(0), (by first | rfl | (simp; done) | (simp [*]; done)), H', ⟨Nat.le_refl _⟩, by repeat (first | exact Drawn0.refl _ | apply Drawn0.step)⟩
  case round =>
    clear H'
    try clear p2
    obtain ⟨x8_1, rfl, HA, HK1, ⟨m1, rfl⟩⟩ := hrel
    cases gk with
    | zero => exact absurd HA.out (by simp [slices_Index_int_int.l0])
    | succ k1 =>
      have H := HA.out
      clear HA
      simp only [slices_Index_int_int.l0] at H
      by_cases c3 : x8_1 < (l0.length : Int)
      · rw [if_pos c3] at H
        have c3b0 : decide (x8_1 < (l0.length : Int)) = true := decide_eq_true c3
        clear c3
        by_cases c4 : 0 ≤ x8_1
        · rw [if_pos c4] at H
          have c4b0 : decide (0 ≤ x8_1) = true := decide_eq_true c4
          clear c4
          by_cases c5 : x8_1 < (l0.length : Int)
          · rw [if_pos c5] at H
            have c5b0 : decide (x8_1 < (l0.length : Int)) = true := decide_eq_true c5
            clear c5
            by_cases c6 : a1 = (rd l0 x8_1)
            · rw [if_pos c6] at H
              have c6b0 : (a1 == (rd l0 x8_1)) = true := beq_iff_eq.mpr c6
              have c6b1 : (a1 != (rd l0 x8_1)) = false := bne_eq_false_iff_eq.mpr c6
              clear c6
              obtain rfl := Option.some.inj H
              have p153 : 0 ≤ (x8_1 : Int) := of_decide_eq_true (by first | (with_reducible assumption) | assumption)
              have q153 : x8_1 < (l0.length : Int) := of_decide_eq_true (by first | (with_reducible assumption) | assumption)
              obtain ⟨ad153, e153, hx153_0⟩ := Kd.at_int HR0.out x8_1 p153 q153
              cases e153
              replace p153 := eq_true p153
              replace q153 := eq_true q153
              go_wp2
              go_ret
              exact ⟨by first | rfl | (simp; done) | (simp [*]; done), by repeat (first | exact Drawn0.refl _ | apply Drawn0.step)⟩
            · rw [if_neg c6] at H
              have c6b0 : (a1 == (rd l0 x8_1)) = false := beq_eq_false_iff_ne.mpr c6
              have c6b1 : (a1 != (rd l0 x8_1)) = true := bne_iff_ne.mpr c6
              have H' := Aside0.mk H
              clear H
              have p153 : 0 ≤ (x8_1 : Int) := of_decide_eq_true (by first | (with_reducible assumption) | assumption)
              have q153 : x8_1 < (l0.length : Int) := of_decide_eq_true (by first | (with_reducible assumption) | assumption)
              obtain ⟨ad153, e153, hx153_0⟩ := Kd.at_int HR0.out x8_1 p153 q153
              cases e153
              replace p153 := eq_true p153
              replace q153 := eq_true q153
              go_wp2
              go_roundg k1
              case measure => have := HK1.out; omega
              case rel => exact ⟨(wrap64 (x8_1 + 1)), (by first | rfl | (simp; done) | (simp [*]; done)), H', ⟨by have := HK1.out; omega⟩, by repeat (first | exact Drawn0.refl _ | apply Drawn0.step)⟩
          · rw [if_neg c5] at H
            exact absurd H (by simp)
        · rw [if_neg c4] at H
          exact absurd H (by simp)
      · rw [if_neg c3] at H
        have c3b0 : decide (x8_1 < (l0.length : Int)) = false := decide_eq_false c3
        clear c3
        obtain rfl := Option.some.inj H
        go_wp2
        go_ret
        exact ⟨by first | rfl | (simp; done) | (simp [*]; done), by repeat (first | exact Drawn0.refl _ | apply Drawn0.step)⟩

/-! ### slices_Contains_int_int: function 64 -/
def slices_Contains_int_int.f (k : Nat) (l0 : List Int) (a1 : Int) : Option (Bool) := (slices_Index_int_int.f k l0 a1).bind fun t154 => (some (decide (t154 ≥ 0)))
theorem slices_Contains_int_int.mono : ∀ a0 a1 k, LeO (slices_Contains_int_int.f k a0 a1) (slices_Contains_int_int.f (k + 1) a0 a1) := by
  intro a0 a1 k
  unfold slices_Contains_int_int.f
  repeat' first
      | (with_reducible exact slices_Index_int_int.mono _ _ _)
      | (with_reducible exact LeO.refl _)
      | (with_reducible exact LeO.none _)
      | (with_reducible refine LeO.ite ?_ ?_)
      | (with_reducible refine LeO.bind ?_ (fun _ => ?_))
      | exact slices_Index_int_int.mono _ _ _
      | exact LeO.none _
      | refine LeO.ite ?_ ?_
      | refine LeO.bind ?_ (fun _ => ?_)
set_option maxHeartbeats 8000000 in
set_option maxRecDepth 100000 in
theorem slices_Contains_int_int.calls (k : Nat) (A0 : Option Addr) (c0 : Nat) (l0 : List Int) (a1 : Int) (r : Bool) (w : World) (hr0 : Kd.C (Kd.int .i64) w A0 l0.length l0) (hc0 : l0.length ≤ c0) (h : slices_Contains_int_int.f k l0 a1 = some r) :
    Calls Try.prog 64 #[.slice A0 l0.length c0, .int .i64 a1] w fun e w' => e = .returned (.bool r) ∧ Drawn0 w w' := by
  have HR0 := Aside0.mk hr0
  have HC0 := Aside0.mk hc0
  clear hr0 hc0
  have H : ((slices_Index_int_int.f k l0 a1).bind fun t154 => (some (decide (t154 ≥ 0)))) = some r := h
  clear h
  replace H := Option.bind_eq_some_iff.mp H
  obtain ⟨t154, A30, H⟩ := H
  replace H : (some (decide (t154 ≥ 0))) = some r := H
  have A3 := Aside0.mk A30
  clear A30
  obtain rfl := Option.some.inj H
  go_enter Try.func64, Try.ntmps64
  go_wp2_with (first | ((with_reducible refine gate_callee (f := 97) rfl ?_); refine goesL_ (some 7) rfl rfl Try.func97 (by kernel_rfl) rfl #[.slice A0 l0.length c0, .int .i64 a1] rfl (by (try simp only [List.map_toArray, List.map_cons, List.map_nil]); first | done | rfl | (simp only [List.length_drop, List.length_take]; rfl)) ?_; (with_reducible refine (slices_Index_int_int.calls k _ _ l0 a1 t154 _ ?side1 ?side2 A3.out).mono ?_); (case side1 => repeat (first | exact HR0.out | (with_reducible refine Kd.C_alloc ?_ _) | (with_reducible refine Kd.C_drewN ?_ _) | (with_reducible refine Kd.C_drew ?_))); (case side2 => exact HC0.out); rintro e w' ⟨rfl, ⟨nd, rfl⟩⟩; refine ⟨_, rfl, ?_⟩))
  go_ret
  exact ⟨by first | rfl | (simp; done) | (simp [*]; done), by repeat (first | exact Drawn0.refl _ | apply Drawn0.step)⟩

theorem slices_Contains_int_int.callsN (n : Nat) (k : Nat) (A0 : Option Addr) (c0 : Nat) (l0 : List Int) (hn : l0.length = n) (a1 : Int) (r : Bool) (w : World) (hr0 : Kd.C (Kd.int .i64) w A0 l0.length l0) (hc0 : l0.length ≤ c0) (h : slices_Contains_int_int.f k l0 a1 = some r) :
    Calls Try.prog 64 #[.slice A0 n c0, .int .i64 a1] w fun e w' => e = .returned (.bool r) ∧ Drawn0 w w' := by
  subst hn
  exact slices_Contains_int_int.calls k A0 c0 l0 a1 r w hr0 hc0 h

-- NOT PRINTED: function 82 (impl_Tlb_use)

/-! ### impl_TlbRun: function 30 -/
/-- One access: whether the page was known, and the pages behind it. -/
def impl_TlbRun.use (size : Int) (pages : List Int) (p : Int) : Bool × List Int :=
  if pages.contains p = true then (true, pages) else (false, if (pages.length : Int) + 1 > size then (pages ++ [p]).drop 1 else pages ++ [p])
def impl_TlbRun.go (size : Int) : List Int → List Int → List Bool → List Bool
  | [], _, acc => acc
  | a :: r, pages, acc => impl_TlbRun.go size r (impl_TlbRun.use size pages (wrap64 (Int.tdiv a 64))).2 (acc ++ [(impl_TlbRun.use size pages (wrap64 (Int.tdiv a 64))).1])
def impl_TlbRun.bad (l1 : List Int) : Bool := l1.any fun a => !(decide (0 ≤ a ∧ a ≤ 65535))
def impl_TlbRun.f (a0 : Int) (l1 : List Int) : Option (List Bool) :=
  some (if ((1 ≤ a0 ∧ a0 ≤ 8) ∧ (l1.length : Int) ≤ 2000) ∧ impl_TlbRun.bad l1 = false then impl_TlbRun.go a0 l1 [] [] else [])
theorem impl_TlbRun.index (l : List Int) (p : Int) (hl : l.length ≤ 4000) : ∀ d i K : Nat, i + d = l.length → d < K → ∃ r : Int, slices_Index_int_int.l0 K l p (l.length : Int) i = some r ∧ (decide (r ≥ 0) = (l.drop i).contains p) := by
  intro d
  induction d with
  | zero =>
    intro i K hi hK
    obtain ⟨K, rfl⟩ : ∃ m, K = m + 1 := ⟨K - 1, by omega⟩
    refine ⟨-1, ?_, ?_⟩
    · simp only [slices_Index_int_int.l0]; rw [if_neg (by omega)]
    · rw [List.drop_eq_nil_of_le (by omega)]; rfl
  | succ d ih =>
    intro i K hi hK
    obtain ⟨K, rfl⟩ : ∃ m, K = m + 1 := ⟨K - 1, by omega⟩
    have hlt : i < l.length := by omega
    have hrd : rd l (i : Int) = l[i] := by unfold rd; simp [hlt]
    rw [List.drop_eq_getElem_cons hlt]
    by_cases e : p = l[i]
    · refine ⟨i, ?_, ?_⟩
      · simp only [slices_Index_int_int.l0]
        rw [if_pos (by omega), if_pos (by omega), if_pos (by omega), hrd, if_pos e]
      · rw [decide_eq_true (by omega), List.contains_cons, beq_iff_eq.2 e, Bool.true_or]
    · obtain ⟨r, h1, h2⟩ := ih (i + 1) K (by omega) (by omega)
      refine ⟨r, ?_, ?_⟩
      · simp only [slices_Index_int_int.l0]
        rw [if_pos (by omega), if_pos (by omega), if_pos (by omega), hrd, if_neg e]
        have : wrap64 ((i : Int) + 1) = ((i + 1 : Nat) : Int) := by unfold wrap64; omega
        rw [this]; exact h1
      · rw [h2, List.contains_cons, beq_eq_false_iff_ne.2 e, Bool.false_or]
theorem impl_TlbRun.contains (l : List Int) (p : Int) (hl : l.length ≤ 4000) : slices_Contains_int_int.f 5000 l p = some (l.contains p) := by
  obtain ⟨r, h1, h2⟩ := impl_TlbRun.index l p hl l.length 0 5000 (by omega) (by omega)
  unfold slices_Contains_int_int.f slices_Index_int_int.f
  rw [show (0 : Int) = ((0 : Nat) : Int) from rfl, h1, Option.bind_some, show ((0 : Nat) : Int) = 0 from rfl, h2, List.drop_zero]
/-- Blocks of other types than int and Tlb stay. -/
def impl_TlbRun.Stay (W W' : World) : Prop := ∀ (k t : Nat) (cs : Array Value), W.heap[k]? = some (.cells cs t (0, 0)) → t ≠ 3 → t ≠ 27 → W'.heap[k]? = some (.cells cs t (0, 0))
theorem impl_TlbRun.Stay.drewN {W W' : World} (h : impl_TlbRun.Stay W W') (n : Nat) : impl_TlbRun.Stay W (W'.drewN n) := fun k t cs h1 h2 h3 => blk_drewN (h k t cs h1 h2 h3) n
theorem impl_TlbRun.Stay.drew {W W' : World} (h : impl_TlbRun.Stay W W') : impl_TlbRun.Stay W W'.drew := fun k t cs h1 h2 h3 => blk_drew (h k t cs h1 h2 h3)
theorem impl_TlbRun.Stay.set {W W' : World} {g : Nat} {cs0 : Array Value} (h : impl_TlbRun.Stay W W') (hg : W'.heap[g]? = some (.cells cs0 27 (0, 0))) (j : Nat) (u : Value) : impl_TlbRun.Stay W (W'.setCell ⟨g, j, none⟩ u) := fun k t cs h1 h2 h3 => by
  have hk := h k t cs h1 h2 h3
  have hne : k ≠ g := by
    rintro rfl
    rw [hk] at hg
    injection hg with hg
    injection hg with _ hg _
    exact h3 hg
  exact blk_far hk hne _
theorem impl_TlbRun.put1 {w : World} {g : Nat} {s : Int} {v : Value} (v1 : Value) (h : w.heap[g]? = some (.cells #[.int .i64 s, v] 27 (0, 0))) : (w.setCell ⟨g, 1, none⟩ v1).heap[g]? = some (.cells #[.int .i64 s, v1] 27 (0, 0)) := blk_put (cs := #[.int .i64 s, v]) h 1 v1 rfl
theorem impl_TlbRun.put2 {w : World} {g : Nat} {s : Int} {v : Value} (v1 v2 : Value) (h : w.heap[g]? = some (.cells #[.int .i64 s, v] 27 (0, 0))) : ((w.setCell ⟨g, 1, none⟩ v1).setCell ⟨g, 1, none⟩ v2).heap[g]? = some (.cells #[.int .i64 s, v2] 27 (0, 0)) := impl_TlbRun.put1 v2 (impl_TlbRun.put1 v1 h)
theorem impl_TlbRun.addr {W : World} {base n c : Nat} {A : Option Addr} {ok : Nat → Prop} {xs : List Int} (h : Kd.Q (Kd.int .i64) 3 W base ok (.slice A n c) xs) (hn : 0 < n) : ∃ b off, A = some ⟨b, off, none⟩ := by
  have hnx := (Kd.Q_reads' h).1
  obtain ⟨_, inner, ⟨_, h2⟩, _⟩ := h
  rcases h2 with ⟨h0, _⟩ | ⟨g, off, cap, cur, he, _⟩
  · omega
  · injection he with he _ _
    exact ⟨g, _, he⟩
set_option maxHeartbeats 8000000 in
set_option maxRecDepth 100000 in
theorem impl_TlbRun.useHit (size addr : Int) (pages : List Int) (v : Value) (g : Nat) (w0 W : World) (hp : pages.length ≤ 8) (HB : Below w0.heap.size w0 W) (hg : w0.heap.size ≤ g)
    (HG : W.heap[g]? = some (.cells #[.int .i64 size, v] 27 (0, 0))) (HQ : Kd.Q (Kd.int .i64) 3 W w0.heap.size (fun _ => True) v pages) (hc : pages.contains (wrap64 (Int.tdiv addr 64)) = true) :
    Calls Try.prog 82 #[.pointer (some ⟨g, 0, none⟩), .int .i64 addr] W fun e w' => ∃ v', e = .returned (.bool true) ∧ w'.heap[g]? = some (.cells #[.int .i64 size, v'] 27 (0, 0)) ∧ Kd.Q (Kd.int .i64) 3 w' w0.heap.size (fun _ => True) v' pages ∧ Below w0.heap.size w0 w' ∧ impl_TlbRun.Stay W w' := by
  have hu27 := Try.underlying27
  obtain ⟨Ap, cp, rfl, hcp⟩ := Kd.Q_slice HQ
  have u0 : W.cell? ⟨g, 0, none⟩ = some (.int .i64 size) := (blk_cell HG 0).trans rfl
  have u1 : W.cell? ⟨g, 1, none⟩ = some (.slice Ap pages.length cp) := (blk_cell HG 1).trans rfl
  have HCo := Lib.hid (fun W (h : Kd.C (Kd.int .i64) W Ap pages.length pages) => slices_Contains_int_int.calls 5000 Ap cp pages (wrap64 (Int.tdiv addr 64)) true W h hcp (by rw [impl_TlbRun.contains pages _ (by omega), hc]))
  have HQ := Aside0.mk HQ
  have HG := Aside0.mk HG
  have HB := Aside0.mk HB
  clear hc hp
  go_enter Try.func82, Try.ntmps82
  go_wp2_with (first | ((with_reducible refine (HCo.out _ ?hC).mono ?_); (case hC => repeat (first | exact (Kd.Q_reads' HQ.out).2.2 | (with_reducible refine Kd.C_alloc ?_ _) | (with_reducible refine Kd.C_drewN ?_ _) | (with_reducible refine Kd.C_drew ?_))); rintro e w' ⟨rfl, nd, rfl⟩))
  go_ret
  exact ⟨_, rfl, blk_drewN HG.out _, Kd.Q_drewN HQ.out _, pw_below_drewN HB.out _, fun k t cs h _ _ => blk_drewN h _⟩
set_option maxHeartbeats 8000000 in
set_option maxRecDepth 100000 in
theorem impl_TlbRun.useMiss (size addr : Int) (pages : List Int) (v : Value) (g : Nat) (w0 W : World) (hp : pages.length ≤ 8) (HB : Below w0.heap.size w0 W) (hg : w0.heap.size ≤ g)
    (HG : W.heap[g]? = some (.cells #[.int .i64 size, v] 27 (0, 0))) (HQ : Kd.Q (Kd.int .i64) 3 W w0.heap.size (fun _ => True) v pages) (hc : pages.contains (wrap64 (Int.tdiv addr 64)) = false) (R : List Int) (HR : Hid (R = if (pages.length : Int) + 1 > size then (pages ++ [wrap64 (Int.tdiv addr 64)]).drop 1 else pages ++ [wrap64 (Int.tdiv addr 64)])) :
    Calls Try.prog 82 #[.pointer (some ⟨g, 0, none⟩), .int .i64 addr] W fun e w' => ∃ v', e = .returned (.bool false) ∧ w'.heap[g]? = some (.cells #[.int .i64 size, v'] 27 (0, 0)) ∧ Kd.Q (Kd.int .i64) 3 w' w0.heap.size (fun _ => True) v' R ∧ Below w0.heap.size w0 w' ∧ impl_TlbRun.Stay W w' := by
  have hu27 := Try.underlying27
  obtain ⟨Ap, cp, rfl, hcp⟩ := Kd.Q_slice HQ
  have u0 : W.cell? ⟨g, 0, none⟩ = some (.int .i64 size) := (blk_cell HG 0).trans rfl
  have u1 : W.cell? ⟨g, 1, none⟩ = some (.slice Ap pages.length cp) := (blk_cell HG 1).trans rfl
  have HCo := Lib.hid (fun W (h : Kd.C (Kd.int .i64) W Ap pages.length pages) => slices_Contains_int_int.calls 5000 Ap cp pages (wrap64 (Int.tdiv addr 64)) false W h hcp (by rw [impl_TlbRun.contains pages _ (by omega), hc]))
  have HQ := Aside0.mk HQ
  have HG := Aside0.mk HG
  have HB := Aside0.mk HB
  have HS0 := Aside0.mk (show impl_TlbRun.Stay W W from fun k t cs h _ _ => h)
  have LP := Aside0.mk hp
  clear hc hp
  go_enter Try.func82, Try.ntmps82
  generalize hpg : wrap64 (Int.tdiv addr 64) = page at *
  go_wp2_with (first | ((with_reducible refine (HCo.out _ ?hC).mono ?_); (case hC => repeat (first | exact (Kd.Q_reads' HQ.out).2.2 | (with_reducible refine Kd.C_alloc ?_ _) | (with_reducible refine Kd.C_drewN ?_ _) | (with_reducible refine Kd.C_drew ?_))); rintro e w' ⟨rfl, nd, rfl⟩) | ((with_reducible refine gate_builtin (b := .append) (xs := #[.tmp 18, .tmp 20]) rfl ?_); at_builtin; refine Kd.Q_append (Kd.int .i64) (w0 := w0) w0.heap.size rfl (.tmp 18) (.tmp 20) 22 3 (.int .i64 0) 8 rfl Try.underlying22 info3 rfl (by decide) (by omega) (.slice Ap pages.length cp) pages page [.int .i64 page] (fun _ => True) (fun _ => False) rfl (by first | (go_simp; done) | (go_simp; rfl)) ?aP (fun _ hk => hk.elim) ?aF ?aO ?aB ?aS ?aL ?_; (case aP => exact rfl); (case aF => exact (fun _ _ => trivial)); (case aO => exact (by (with_reducible repeat (first | apply Kd.Q_alloc | apply Kd.Q_drewN | apply Kd.Q_drew)); exact HQ.out)); (case aB => exact (by repeat (first | (with_reducible first | exact HB.out | apply below_alloc | apply pw_below_drewN | apply below_drew1) | exact HB.out))); (case aS => exact (below_size (by repeat (first | (with_reducible first | exact HB.out | apply below_alloc | apply pw_below_drewN | apply below_drew1) | exact HB.out)))); (case aL => have := LP.out; omega); intro v1 w1 ho hb hgr hat; obtain ⟨A1, c1, hv1, hc1⟩ := Kd.Q_slice ho; have HB1 := Aside0.mk hb; have HG1 := Aside0.mk (blk_grown (g := g) (blk_drewN HG.out nd) hgr (Kd.Q_ne HQ.out HG.out (by decide))); have ST1 := Aside0.mk (show impl_TlbRun.Stay W w1 from fun k t cs h h3 h27 => blk_grown (g := k) (blk_drewN h nd) hgr (Kd.Q_ne HQ.out h (Ne.symm h3))); have z0 : w1.cell? ⟨g, 0, none⟩ = some (.int .i64 size) := (blk_cell HG1.out 0).trans rfl; have z1 : w1.cell? ⟨g, 1, none⟩ = some (.slice Ap pages.length cp) := (blk_cell HG1.out 1).trans rfl; have y0 := blk_frozen HG1.out 0; have y1 := blk_frozen HG1.out 1; clear hb hgr hat; rw [List.length_append, List.length_singleton] at hv1 hc1; subst hv1; obtain ⟨b1, o1, rfl⟩ := impl_TlbRun.addr ho (by omega); have HC1 := Aside0.mk hc1; have HQ1 := Aside0.mk ho; clear ho hc1))
  by_cases hgt : (pages.length : Int) + 1 > size
  · have d1 : decide (size < (pages.length : Int) + 1) = true := decide_eq_true hgt
    have HGT := Lib.hid hgt
    clear hgt
    go_region
    go_wp2
    case inl =>
      go_ret
      refine ⟨rfl, .slice (some ⟨b1, o1, none⟩) pages.length 0, ?qa, ?qb, ?qc, ?qd⟩
      case qa => (with_reducible repeat (first | refine blk_drewN ?_ _ | refine blk_drew ?_)); exact impl_TlbRun.put2 _ _ HG1.out
      case qb =>
        have hd := Kd.Q_drop (k := 1) HQ1.out (by simp)
        have hd2 : Kd.Q (Kd.int .i64) 3 w1 w0.heap.size (fun _ => True) (.slice (some ⟨b1, o1, none⟩) pages.length 0) R := by
          rw [show R = (pages ++ [page]).drop 1 from HR.out.trans (if_pos HGT.out)]
          simpa [Kd.int, Kd.scalar, h, Addr.add] using hd
        (with_reducible repeat (first | apply Kd.Q_drewN | apply Kd.Q_drew))
        exact Kd.Q_set (Kd.Q_set hd2 HG1.out (by decide) 1 _) (impl_TlbRun.put1 _ HG1.out) (by decide) 1 _
      case qc => (with_reducible repeat (first | apply pw_below_drewN | apply below_drew1)); exact below_set (below_set HB1.out hg) hg
      case qd => (with_reducible repeat (first | apply impl_TlbRun.Stay.drewN | apply impl_TlbRun.Stay.drew)); exact (ST1.out.set HG1.out 1 _).set (impl_TlbRun.put1 _ HG1.out) 1 _
    case inr =>
      go_ret
      refine ⟨rfl, .slice (some ⟨b1, o1 + 1, none⟩) pages.length (c1 - 1), ?qa, ?qb, ?qc, ?qd⟩
      case qa => (with_reducible repeat (first | refine blk_drewN ?_ _ | refine blk_drew ?_)); exact impl_TlbRun.put2 _ _ HG1.out
      case qb =>
        have hd := Kd.Q_drop (k := 1) HQ1.out (by simp)
        have hd2 : Kd.Q (Kd.int .i64) 3 w1 w0.heap.size (fun _ => True) (.slice (some ⟨b1, o1 + 1, none⟩) pages.length (c1 - 1)) R := by
          rw [show R = (pages ++ [page]).drop 1 from HR.out.trans (if_pos HGT.out)]
          simpa [Kd.int, Kd.scalar, h, Addr.add] using hd
        (with_reducible repeat (first | apply Kd.Q_drewN | apply Kd.Q_drew))
        exact Kd.Q_set (Kd.Q_set hd2 HG1.out (by decide) 1 _) (impl_TlbRun.put1 _ HG1.out) (by decide) 1 _
      case qc => (with_reducible repeat (first | apply pw_below_drewN | apply below_drew1)); exact below_set (below_set HB1.out hg) hg
      case qd => (with_reducible repeat (first | apply impl_TlbRun.Stay.drewN | apply impl_TlbRun.Stay.drew)); exact (ST1.out.set HG1.out 1 _).set (impl_TlbRun.put1 _ HG1.out) 1 _
  · have d1 : decide (size < (pages.length : Int) + 1) = false := decide_eq_false hgt
    have HGT := Lib.hid hgt
    clear hgt
    go_region
    go_wp2
    go_ret
    refine ⟨rfl, .slice (some ⟨b1, o1, none⟩) (pages.length + 1) c1, ?qa, ?qb, ?qc, ?qd⟩
    case qa => (with_reducible repeat (first | refine blk_drewN ?_ _ | refine blk_drew ?_)); exact impl_TlbRun.put1 _ HG1.out
    case qb => rw [show R = pages ++ [page] from HR.out.trans (if_neg (Int.not_lt.2 HGT.out))]; (with_reducible repeat (first | apply Kd.Q_drewN | apply Kd.Q_drew)); exact Kd.Q_set HQ1.out HG1.out (by decide) 1 _
    case qc => (with_reducible repeat (first | apply pw_below_drewN | apply below_drew1)); exact below_set HB1.out hg
    case qd => (with_reducible repeat (first | apply impl_TlbRun.Stay.drewN | apply impl_TlbRun.Stay.drew)); exact ST1.out.set HG1.out 1 _
theorem impl_TlbRun.useCalls (size addr : Int) (pages : List Int) (v : Value) (g : Nat) (w0 W : World) (hp : pages.length ≤ 8) (HB : Below w0.heap.size w0 W) (hg : w0.heap.size ≤ g)
    (HG : W.heap[g]? = some (.cells #[.int .i64 size, v] 27 (0, 0))) (HQ : Kd.Q (Kd.int .i64) 3 W w0.heap.size (fun _ => True) v pages) :
    Calls Try.prog 82 #[.pointer (some ⟨g, 0, none⟩), .int .i64 addr] W fun e w' => ∃ v', e = .returned (.bool (impl_TlbRun.use size pages (wrap64 (Int.tdiv addr 64))).1) ∧ w'.heap[g]? = some (.cells #[.int .i64 size, v'] 27 (0, 0)) ∧ Kd.Q (Kd.int .i64) 3 w' w0.heap.size (fun _ => True) v' (impl_TlbRun.use size pages (wrap64 (Int.tdiv addr 64))).2 ∧ Below w0.heap.size w0 w' ∧ impl_TlbRun.Stay W w' := by
  unfold impl_TlbRun.use
  cases hc : pages.contains (wrap64 (Int.tdiv addr 64)) with
  | true => rw [if_pos rfl]; exact impl_TlbRun.useHit size addr pages v g w0 W hp HB hg HG HQ hc
  | false => rw [if_neg (by simp)]; exact impl_TlbRun.useMiss size addr pages v g w0 W hp HB hg HG HQ hc _ (Lib.hid rfl)
theorem impl_TlbRun.useLen (size : Int) (pages : List Int) (p : Int) (hs : 1 ≤ size ∧ size ≤ 8) (h : (pages.length : Int) ≤ size) : ((impl_TlbRun.use size pages p).2.length : Int) ≤ size := by
  unfold impl_TlbRun.use
  split
  · exact h
  · dsimp only
    split
    · simp; omega
    · simp; omega
theorem impl_TlbRun.isAddr (x : Int) (W : World) : Calls Try.prog 63 #[.int .i64 x] W fun e w' => e = .returned (.bool (decide (0 ≤ x ∧ x ≤ 65535))) ∧ Drawn0 W w' := by
  have HA := Lib.hid (fun W => impl_within.calls x 0 65535 (decide (0 ≤ x ∧ x ≤ 65535)) W (by
    unfold impl_within.f
    by_cases h : x ≥ 0
    · rw [if_pos h]; congr 1; simp; omega
    · rw [if_neg h]; congr 1; simp; omega))
  generalize decide (0 ≤ x ∧ x ≤ 65535) = q at *
  go_enter Try.func63, Try.ntmps63
  go_wp2_with ((with_reducible refine (HA.out _).mono ?_); rintro e w' ⟨rfl, nd, rfl⟩)
  all_goals (go_ret; exact ⟨rfl, _, rfl⟩)
theorem impl_TlbRun.gives (x : Int) (W : World) : FnGives Try.prog 81 #[] #[.int .i64 x] (.bool (!(decide (0 ≤ x ∧ x ≤ 65535)))) W := by
  show Calls Try.prog 81 #[.int .i64 x] W _
  have HA := Lib.hid (fun W => impl_TlbRun.isAddr x W)
  generalize decide (0 ≤ x ∧ x ≤ 65535) = q at *
  go_enter Try.func81, Try.ntmps81
  go_wp2_with ((with_reducible refine (HA.out _).mono ?_); rintro e w' ⟨rfl, nd, rfl⟩)
  all_goals (go_ret; exact ⟨rfl, _, rfl⟩)
/-- Whether some address is none: the library's ContainsFunc with the closure. -/
theorem impl_TlbRun.anyBad (A1 : Option Addr) (c1 : Nat) (l1 : List Int) (W : World) (hr1 : Kd.C (Kd.int .i64) W A1 l1.length l1) (hl : l1.length ≤ 2000) :
    Calls Try.prog 80 #[.slice A1 l1.length c1, .func (.func 81) #[] #[]] W fun e w' => e = .returned (.bool (impl_TlbRun.bad l1)) ∧ Drawn0 W w' := by
  have eg : ∀ args w, (callFunc 81 args).run Try.prog w = .ok (.enter 81 args) w := enters_of Try.func81 (by kernel_rfl) rfl
  cases l1 with
  | nil =>
    refine (Try.slices_ContainsFunc_empty (α := Int) A1 c1 _ W).mono ?_
    rintro e w' ⟨rfl, rfl⟩
    exact ⟨rfl, Drawn0.refl _⟩
  | cons x t =>
    obtain ⟨ad, c, rfl, hcl, hK, hcell⟩ := ReadsRow.get_ hr1 0 0 (by omega) (by simp)
    have hall : ∀ j, j < (x :: t).length → W.cell? (ad.add j) = some (.int .i64 ((x :: t)[j]!)) := by
      intro j hj
      obtain ⟨ad2, c2, h2, _, hK2, hc2⟩ := ReadsRow.get_ hr1 0 (j : Int) (by omega) (by omega)
      injection h2 with h2
      subst h2
      have hK2 : c2 = [Value.int .i64 ((x :: t).getD j 0)] := hK2
      subst hK2
      have := hc2 0 _ rfl
      simpa [Kd.int, Kd.scalar, List.getElem!_eq_getElem?_getD, List.getD_eq_getElem?_getD] using this
    obtain ⟨b, off, q⟩ := ad
    cases q with
    | some q =>
      have := hall 0 (by simp)
      simp only [Addr.add_zero'] at this
      unfold World.cell? at this
      split at this <;> simp at this
    | none =>
      refine (Try.slices_ContainsFunc (Value.int .i64) (fun x : Int => !(decide (0 ≤ x ∧ x ≤ 65535))) 81 #[] eg b off (x :: t).length c1 (x :: t) W (fun W x _ => impl_TlbRun.gives x W) (Nat.le_refl _) (by omega) (fun j hj => by rw [← Addr.add_lit]; exact hall j hj)).mono ?_
      rintro e w' ⟨rfl, q, rfl⟩
      refine ⟨?_, q, rfl⟩
      rw [List.take_length]; rfl
set_option maxHeartbeats 8000000 in
set_option maxRecDepth 100000 in
theorem impl_TlbRun.nilCalls (a0 : Int) (A1 : Option Addr) (c1 : Nat) (l1 : List Int) (w : World) (hr1 : Kd.C (Kd.int .i64) w A1 l1.length l1) (hc1 : l1.length ≤ c1) (h : ¬ (((1 ≤ a0 ∧ a0 ≤ 8) ∧ (l1.length : Int) ≤ 2000) ∧ impl_TlbRun.bad l1 = false)) :
    Calls Try.prog 30 #[.int .i64 a0, .slice A1 l1.length c1] w fun e w' => e = .returned (.slice none 0 0) ∧ Below w.heap.size w w' := by
  have HW := Lib.hid (fun W => impl_within.calls a0 1 8 (decide (1 ≤ a0 ∧ a0 ≤ 8)) W (by
    unfold impl_within.f
    by_cases h : a0 ≥ 1
    · rw [if_pos h]; congr 1; simp; omega
    · rw [if_neg h]; congr 1; simp; omega))
  have HR := Aside0.mk hr1
  clear hr1
  by_cases h1 : 1 ≤ a0 ∧ a0 ≤ 8
  · rw [decide_eq_true h1] at HW
    by_cases h2 : (l1.length : Int) ≤ 2000
    · have h3 : impl_TlbRun.bad l1 = true := by
        cases hb : impl_TlbRun.bad l1 with
        | true => rfl
        | false => exact absurd ⟨⟨h1, h2⟩, hb⟩ h
      have HA := Lib.hid (fun W (hr : Kd.C (Kd.int .i64) W A1 l1.length l1) => impl_TlbRun.anyBad A1 c1 l1 W hr (by omega))
      rw [h3] at HA
      have d2 : decide ((2000 : Int) < l1.length) = false := decide_eq_false (by omega)
      clear h h1 h2 h3
      go_enter Try.func30, Try.ntmps30
      go_wp2_with (first | ((with_reducible refine (HW.out _).mono ?_); rintro e w' ⟨rfl, nd, rfl⟩) | ((with_reducible refine (HA.out _ ?hC).mono ?_); (case hC => repeat (first | exact HR.out | (with_reducible refine Kd.C_alloc ?_ _) | (with_reducible refine Kd.C_drewN ?_ _) | (with_reducible refine Kd.C_drew ?_))); rintro e w' ⟨rfl, nd2, rfl⟩))
      all_goals (go_ret; exact ⟨rfl, by (with_reducible repeat (first | exact Below.refl _ _ | apply pw_below_drewN | apply below_drew1))⟩)
    · have d2 : decide ((2000 : Int) < l1.length) = true := decide_eq_true (by omega)
      clear h h1 h2
      go_enter Try.func30, Try.ntmps30
      go_wp2_with (first | ((with_reducible refine (HW.out _).mono ?_); rintro e w' ⟨rfl, nd, rfl⟩))
      all_goals (go_ret; exact ⟨rfl, by (with_reducible repeat (first | exact Below.refl _ _ | apply pw_below_drewN | apply below_drew1))⟩)
  · rw [decide_eq_false h1] at HW
    clear h h1
    go_enter Try.func30, Try.ntmps30
    go_wp2_with (first | ((with_reducible refine (HW.out _).mono ?_); rintro e w' ⟨rfl, nd, rfl⟩))
    all_goals (go_ret; exact ⟨rfl, by (with_reducible repeat (first | exact Below.refl _ _ | apply pw_below_drewN | apply below_drew1))⟩)
theorem impl_TlbRun.elem {W : World} {A1 : Option Addr} {l1 : List Int} (hr1 : Kd.C (Kd.int .i64) W A1 l1.length l1) (hpos : 0 < l1.length) : ∃ b off, A1 = some ⟨b, off, none⟩ ∧ ∀ j, j < l1.length → W.cell? ⟨b, off + j, none⟩ = some (.int .i64 (l1.getD j 0)) := by
  obtain ⟨ad, c, rfl, hcl, hK, hcell⟩ := ReadsRow.get_ hr1 0 0 (by omega) (by omega)
  have hall : ∀ j, j < l1.length → W.cell? (ad.add j) = some (.int .i64 (l1.getD j 0)) := by
    intro j hj
    obtain ⟨ad2, c2, h2, _, hK2, hc2⟩ := ReadsRow.get_ hr1 0 (j : Int) (by omega) (by omega)
    injection h2 with h2
    subst h2
    have hK2 : c2 = [Value.int .i64 (l1.getD j 0)] := hK2
    subst hK2
    have := hc2 0 _ rfl
    simpa [Kd.int, Kd.scalar] using this
  obtain ⟨b, off, q⟩ := ad
  cases q with
  | some q =>
    have := hall 0 hpos
    simp only [Addr.add_zero'] at this
    unfold World.cell? at this
    split at this <;> simp at this
  | none => exact ⟨b, off, rfl, fun j hj => by rw [← Addr.add_lit]; exact hall j hj⟩
theorem impl_TlbRun.keepR {W W' : World} {base : Nat} {v : Value} {xs : List Bool} (h : Kd.R Kd.bool 4 W base (fun _ => True) v xs) (hs : impl_TlbRun.Stay W W') : Kd.R Kd.bool 4 W' base (fun _ => True) v xs :=
  Kd.R_mono (Kd.R_move (Kd.R_bound h) (fun k hk => by
    obtain ⟨_, _, _, q, hq, cells, hc⟩ := hk
    have hq4 : q = 4 := by simpa [Kd.bool, Kd.scalar] using hq
    subst hq4
    rw [hc]; exact hs k _ cells hc (by decide) (by decide))) (fun _ _ => trivial)
set_option maxHeartbeats 8000000 in
set_option maxRecDepth 100000 in
theorem impl_TlbRun.goCalls (a0 : Int) (A1 : Option Addr) (c1 : Nat) (l1 : List Int) (r : List Bool) (w : World) (hr1 : Kd.C (Kd.int .i64) w A1 l1.length l1) (hc1 : l1.length ≤ c1) (h1 : 1 ≤ a0 ∧ a0 ≤ 8) (h2 : (l1.length : Int) ≤ 2000) (h3 : impl_TlbRun.bad l1 = false) (hgo : impl_TlbRun.go a0 l1 [] [] = r) :
    Calls Try.prog 30 #[.int .i64 a0, .slice A1 l1.length c1] w fun e w' => ∃ v0_ : Value, e = .returned (v0_) ∧ Kd.R Kd.bool 4 w' w.heap.size (fun _ => True) v0_ r ∧ Below w.heap.size w w' := by
  have hu27 := Try.underlying27
  have HW := Lib.hid (fun W => impl_within.calls a0 1 8 (decide (1 ≤ a0 ∧ a0 ≤ 8)) W (by
    unfold impl_within.f
    by_cases h : a0 ≥ 1
    · rw [if_pos h]; congr 1; simp; omega
    · rw [if_neg h]; congr 1; simp; omega))
  rw [decide_eq_true h1] at HW
  have HA := Lib.hid (fun W (hr : Kd.C (Kd.int .i64) W A1 l1.length l1) => impl_TlbRun.anyBad A1 c1 l1 W hr (by omega))
  rw [h3] at HA
  have d2 : decide ((2000 : Int) < l1.length) = false := decide_eq_false (by omega)
  have HR := Aside0.mk hr1
  have H1 := Aside0.mk h1
  have H2 := Aside0.mk h2
  have HGO := Aside0.mk hgo
  have HB := Aside0.mk (Below.refl w.heap.size w)
  clear hr1 h1 h2 h3 hgo
  go_enter Try.func30, Try.ntmps30
  go_wp2_with (first | ((with_reducible refine (HW.out _).mono ?_); rintro e w' ⟨rfl, nd, rfl⟩) | ((with_reducible refine (HA.out _ ?hC).mono ?_); (case hC => repeat (first | exact HR.out | (with_reducible refine Kd.C_alloc ?_ _) | (with_reducible refine Kd.C_drewN ?_ _) | (with_reducible refine Kd.C_drew ?_))); rintro e w' ⟨rfl, nd2, rfl⟩) | ((with_reducible refine gate_dst (N := 5) rfl ?_); refine box_event ?hg (N := 5) ?hd (cs := #[.int .i64 0, .slice none 0 0]) (t := 27) ?hr ?_; (case hd => rfl); (case hg => rfl); (case hr => first | (go_simp; done) | (go_simp; rfl)); intro g hg w5 hbox hb; have HB5 := Aside0.mk (below_step (by repeat (first | (with_reducible first | exact HB.out | apply below_alloc | apply pw_below_drewN | apply below_drew1) | exact HB.out)) hb); have BK5 := Aside0.mk hbox; have GE5 := Aside0.mk (show w.heap.size ≤ g by rw [hg]; exact (below_size (by repeat (first | (with_reducible first | exact HB.out | apply below_alloc | apply pw_below_drewN | apply below_drew1) | exact HB.out)))); have z0 : w5.cell? ⟨g, 0, none⟩ = some (.int .i64 0) := (blk_cell BK5.out 0).trans rfl; have z1 : w5.cell? ⟨g, 1, none⟩ = some (.slice none 0 0) := (blk_cell BK5.out 1).trans rfl; have y0 := blk_frozen BK5.out 0; have y1 := blk_frozen BK5.out 1; clear hg hbox hb))
  have BK := Aside0.mk (show ((w5.setCell ⟨g, 0, none⟩ (.int .i64 a0)).setCell ⟨g, 1, none⟩ (.slice none 0 0)).heap[g]? = some (.cells #[.int .i64 a0, .slice none 0 0] 27 (0, 0)) from blk_put (cs := #[.int .i64 a0, .slice none 0 0]) (blk_put (cs := #[.int .i64 0, .slice none 0 0]) BK5.out 0 _ rfl) 1 _ rfl)
  have HB6 := Aside0.mk (below_set (g := g) (j := 1) (v := .slice none 0 0) (below_set (g := g) (j := 0) (v := .int .i64 a0) HB5.out GE5.out) GE5.out)
  clear z0 z1 y0 y1 BK5 HB5 HB
  go_loopw [25, 6] (fun i s wr => ∃ (n : Nat) (pages : List Int) (acc : List Bool) (vp vl : Value), n ≤ l1.length ∧ i = .int .i64 n ∧ s = vl ∧ Aside0 (impl_TlbRun.go a0 (l1.drop n) pages acc = r) ∧ Aside0 ((pages.length : Int) ≤ a0) ∧ Aside0 (acc.length = n) ∧ Aside0 (wr.heap[g]? = some (.cells #[.int .i64 a0, vp] 27 (0, 0))) ∧ Aside0 (Kd.Q (Kd.int .i64) 3 wr w.heap.size (fun _ => True) vp pages) ∧ Aside0 (Kd.R Kd.bool 4 wr w.heap.size (fun _ => True) vl acc) ∧ Aside0 (Below w.heap.size w wr)) (fun i _ _ => l1.length - (intOf i).toNat)
  case atStart => exact ⟨0, [], [], .slice none 0 0, .slice none 0 0, Nat.zero_le _, rfl, rfl, HGO, ⟨by have := H1.out; simp; omega⟩, ⟨rfl⟩, BK, ⟨Kd.Q_nil _ _ _ _ _⟩, ⟨Kd.R_nil _ _ _ _ _⟩, HB6⟩
  case round =>
    clear BK HB6 HGO
    obtain ⟨n, pages, acc, vp, vl, hn, rfl, rfl, HGO, HP, HL, BK, HQ, HRR, HB⟩ := hrel
    by_cases hlt : n < l1.length
    · have d3 : decide (n < l1.length) = true := decide_eq_true hlt
      obtain ⟨b, off, rfl, hcell⟩ := impl_TlbRun.elem HR.out (by omega)
      have HX := Aside0.mk (hcell n hlt)
      have cx : wr.cell? ⟨b, off + n, none⟩ = some (.int .i64 (l1.getD n 0)) := (HB.out.cell (p := ⟨b, off + n, none⟩) (World.block_lt_of_cell? _ _ HX.out)).trans HX.out
      have hdrop : l1.drop n = l1.getD n 0 :: l1.drop (n + 1) := by rw [List.drop_eq_getElem_cons hlt]; simp [hlt]
      generalize l1.getD n 0 = x at HX cx hdrop
      have HG2 := Aside0.mk (show impl_TlbRun.go a0 (l1.drop (n + 1)) (impl_TlbRun.use a0 pages (wrap64 (Int.tdiv x 64))).2 (acc ++ [(impl_TlbRun.use a0 pages (wrap64 (Int.tdiv x 64))).1]) = r by rw [← HGO.out, hdrop]; rfl)
      have HLN := Aside0.mk (show n < l1.length from hlt)
      have HPL := Aside0.mk (impl_TlbRun.useLen a0 pages (wrap64 (Int.tdiv x 64)) H1.out HP.out)
      have HU := Lib.hid (impl_TlbRun.useCalls a0 x pages vp g w wr (by have := HP.out; have := H1.out; omega) HB.out GE5.out BK.out HQ.out)
      generalize (impl_TlbRun.use a0 pages (wrap64 (Int.tdiv x 64))).1 = hit at *
      generalize (impl_TlbRun.use a0 pages (wrap64 (Int.tdiv x 64))).2 = pages2 at *
      have HWR := Aside0.mk (show wrap64 ((n : Int) + 1) = ((n + 1 : Nat) : Int) by unfold wrap64; have := H2.out; omega)
      clear hcell hdrop HGO HP
      go_wp2_with (first | ((with_reducible refine HU.out.mono ?_); rintro e w2 ⟨vp2, rfl, hbk, hq, hb2, hst⟩; have BK2 := Aside0.mk hbk; have HQ2 := Aside0.mk hq; have HB2 := Aside0.mk hb2; have HR2 := Aside0.mk (impl_TlbRun.keepR HRR.out hst); clear hbk hq hb2 hst BK HQ HB HRR HU) | ((with_reducible refine gate_builtin (b := .append) (xs := #[.tmp 29, .tmp 32]) rfl ?_); at_builtin; refine Kd.R_append Kd.bool (w0 := w) w.heap.size rfl (.tmp 29) (.tmp 32) 48 4 (.bool false) 1 rfl Try.underlying48 info4 rfl (by decide) (by omega) u6 acc hit [.bool hit] (fun _ => True) (fun _ => False) rfl (by first | (go_simp; done) | (go_simp; rfl)) ?aP (fun _ hk => hk.elim) ?aF ?aO ?aB ?aS ?aL ?_; (case aP => exact rfl); (case aF => exact (fun _ _ => trivial)); (case aO => exact HR2.out); (case aB => exact HB2.out); (case aS => exact HB2.out.size); (case aL => have := HL.out; have := H2.out; have := HLN.out; omega); intro v1 w3 ho hb hgr hat; have HR3 := Aside0.mk ho; have HB3 := Aside0.mk hb; have BK3 := Aside0.mk (blk_grown (g := g) BK2.out hgr (Kd.R_ne HR2.out BK2.out (by decide))); have HQ3 := Aside0.mk (Kd.Q_over' HQ2.out (Kd.R_typed HR2.out) (by decide) hgr); clear ho hb hgr hat))
      go_roundw
      case rel => exact ⟨n + 1, pages2, acc ++ [hit], _, _, HLN.out, by rw [HWR.out], rfl, HG2, HPL, ⟨by simp [HL.out]⟩, BK3, HQ3, HR3, HB3⟩
      case measure => have := HLN.out; rw [HWR.out]; simp [intOf]; omega
    · have d3 : decide (n < l1.length) = false := decide_eq_false hlt
      have hnil : l1.drop n = [] := List.drop_eq_nil_of_le (by omega)
      have hfin : acc = r := by have := HGO.out; rw [hnil] at this; exact this
      subst hfin
      clear hnil hlt
      go_wp2
      go_ret
      exact ⟨_, rfl, HRR.out, HB.out⟩
theorem impl_TlbRun.calls (a0 : Int) (A1 : Option Addr) (c1 : Nat) (l1 : List Int) (r : List Bool) (w : World) (hr1 : Kd.C (Kd.int .i64) w A1 l1.length l1) (hc1 : l1.length ≤ c1) (h : impl_TlbRun.f a0 l1 = some r) :
    Calls Try.prog 30 #[.int .i64 a0, .slice A1 l1.length c1] w fun e w' => ∃ v0_ : Value, e = .returned (v0_) ∧ Kd.R Kd.bool 4 w' w.heap.size (fun _ => True) v0_ r ∧ Below w.heap.size w w' := by
  unfold impl_TlbRun.f at h
  have h := Option.some.inj h
  by_cases hc : ((1 ≤ a0 ∧ a0 ≤ 8) ∧ (l1.length : Int) ≤ 2000) ∧ impl_TlbRun.bad l1 = false
  · rw [if_pos hc] at h
    exact impl_TlbRun.goCalls a0 A1 c1 l1 r w hr1 hc1 hc.1.1 hc.1.2 hc.2 h
  · rw [if_neg hc] at h
    subst h
    exact (impl_TlbRun.nilCalls a0 A1 c1 l1 w hr1 hc1 hc).mono fun e w' ⟨he, hb⟩ => ⟨_, he, Kd.R_nil _ _ _ _ _, hb⟩

/-! ### laws_eqBoolS: function 31 -/
def laws_eqBoolS.l0 : Nat → List Bool → List Bool → Int → Option (Bool)
  | 0, _, _, _ => none
  | k + 1, x0, x1, x5 => if x5 < (x0.length : Int) then (if 0 ≤ x5 then (if x5 < (x1.length : Int) then (if ((rdOf false x0 x5) != (rdOf false x1 x5)) = true then (some false) else (laws_eqBoolS.l0 k x0 x1 (wrap64 (x5 + 1)))) else (none)) else (none)) else (some true)
def laws_eqBoolS.f (k : Nat) (l0 : List Bool) (l1 : List Bool) : Option (Bool) := if (l0.length : Int) = (l1.length : Int) then (laws_eqBoolS.l0 k l0 l1 0) else (some false)
theorem laws_eqBoolS.mono_l : ∀ k, (∀ y0 y1 y2, LeO (laws_eqBoolS.l0 k y0 y1 y2) (laws_eqBoolS.l0 (k + 1) y0 y1 y2))
  | 0 => fun _ _ _ r h => by simp [laws_eqBoolS.l0] at h
  | k + 1 => by
    have ih0 := laws_eqBoolS.mono_l k
    · intro y0 y1 y2
      unfold laws_eqBoolS.l0
      repeat' first
      | (with_reducible exact ih0 _ _ _)
      | (with_reducible exact LeO.refl _)
      | (with_reducible exact LeO.none _)
      | (with_reducible refine LeO.ite ?_ ?_)
      | (with_reducible refine LeO.bind ?_ (fun _ => ?_))
      | exact ih0 _ _ _
      | exact LeO.none _
      | refine LeO.ite ?_ ?_
      | refine LeO.bind ?_ (fun _ => ?_)
theorem laws_eqBoolS.mono : ∀ a0 a1 k, LeO (laws_eqBoolS.f k a0 a1) (laws_eqBoolS.f (k + 1) a0 a1) := by
  intro a0 a1 k
  have ih0 := laws_eqBoolS.mono_l k
  unfold laws_eqBoolS.f
  repeat' first
      | (with_reducible exact ih0 _ _ _)
      | (with_reducible exact LeO.refl _)
      | (with_reducible exact LeO.none _)
      | (with_reducible refine LeO.ite ?_ ?_)
      | (with_reducible refine LeO.bind ?_ (fun _ => ?_))
      | exact ih0 _ _ _
      | exact LeO.none _
      | refine LeO.ite ?_ ?_
      | refine LeO.bind ?_ (fun _ => ?_)
set_option maxHeartbeats 8000000 in
set_option maxRecDepth 100000 in
theorem laws_eqBoolS.calls (k : Nat) (A0 : Option Addr) (c0 : Nat) (l0 : List Bool) (A1 : Option Addr) (c1 : Nat) (l1 : List Bool) (r : Bool) (w : World) (hr0 : Kd.C Kd.bool w A0 l0.length l0) (hc0 : l0.length ≤ c0) (hr1 : Kd.C Kd.bool w A1 l1.length l1) (hc1 : l1.length ≤ c1) (h : laws_eqBoolS.f k l0 l1 = some r) :
    Calls Try.prog 31 #[.slice A0 l0.length c0, .slice A1 l1.length c1] w fun e w' => e = .returned (.bool r) ∧ Drawn0 w w' := by
  have HR0 := Aside0.mk hr0
  have HC0 := Aside0.mk hc0
  clear hr0 hc0
  have HR1 := Aside0.mk hr1
  have HC1 := Aside0.mk hc1
  clear hr1 hc1
  have H : (if (l0.length : Int) = (l1.length : Int) then (laws_eqBoolS.l0 k l0 l1 0) else (some false)) = some r := h
  clear h
  by_cases c3 : (l0.length : Int) = (l1.length : Int)
  · rw [if_pos c3] at H
    have c3b0 : ((l0.length : Int) == (l1.length : Int)) = true := beq_iff_eq.mpr c3
    have c3b1 : ((l0.length : Int) != (l1.length : Int)) = false := bne_eq_false_iff_eq.mpr c3
    have c3b2 : (l0.length == l1.length) = true := by first | simpa using c3 | (simp at c3 ⊢; omega)
    clear c3
    have H' := Aside0.mk H
    clear H
    go_enter Try.func31, Try.ntmps31
    go_wp2
    repeat (go_quiet (fail); try go_wp2)
    go_loopg [5] k (fun kq v5 w' => ∃ (x5_1 : Int), v5 = .int .i64 x5_1 ∧ Aside0 (laws_eqBoolS.l0 kq l0 l1 x5_1 = some r) ∧ Aside0 (kq ≤ k) ∧ Drawn0 w w')
    case atStart => exact ⟨(0), (by first | rfl | (simp; done) | (simp [*]; done)), H', ⟨Nat.le_refl _⟩, by repeat (first | exact Drawn0.refl _ | apply Drawn0.step)⟩
    case round =>
      clear H'
      try clear c1
      try clear p2
      try clear c3
      try clear c3b0
      try clear c3b1
      try clear c3b2
      obtain ⟨x5_1, rfl, HA, HK1, ⟨m1, rfl⟩⟩ := hrel
      cases gk with
      | zero => exact absurd HA.out (by simp [laws_eqBoolS.l0])
      | succ k1 =>
        have H := HA.out
        clear HA
        simp only [laws_eqBoolS.l0] at H
        by_cases c4 : x5_1 < (l0.length : Int)
        · rw [if_pos c4] at H
          have c4b0 : decide (x5_1 < (l0.length : Int)) = true := decide_eq_true c4
          clear c4
          by_cases c5 : 0 ≤ x5_1
          · rw [if_pos c5] at H
            have c5b0 : decide (0 ≤ x5_1) = true := decide_eq_true c5
            clear c5
            by_cases c6 : x5_1 < (l1.length : Int)
            · rw [if_pos c6] at H
              have c6b0 : decide (x5_1 < (l1.length : Int)) = true := decide_eq_true c6
              clear c6
              by_cases c7 : ((rdOf false l0 x5_1) != (rdOf false l1 x5_1)) = true
              · rw [if_pos c7] at H
                have c7b0 : ((rdOf false l0 x5_1) != (rdOf false l1 x5_1)) = true := c7
                (try (have c7b1 : decide ((rdOf false l0 x5_1) = (rdOf false l1 x5_1)) = false := by simpa using c7))
                (try (have c7b2 : ((rdOf false l0 x5_1) == (rdOf false l1 x5_1)) = false := by simpa using c7))
                (try (have c7b3 : ¬ ((rdOf false l0 x5_1) = (rdOf false l1 x5_1)) := by simpa using c7))
                clear c7
                obtain rfl := Option.some.inj H
                have p156 : 0 ≤ (x5_1 : Int) := of_decide_eq_true (by first | (with_reducible assumption) | assumption)
                have q156 : x5_1 < (l0.length : Int) := of_decide_eq_true (by first | (with_reducible assumption) | assumption)
                obtain ⟨ad156, e156, hx156_0⟩ := Kd.at_bool HR0.out x5_1 p156 q156
                cases e156
                replace p156 := eq_true p156
                replace q156 := eq_true q156
                have p157 : 0 ≤ (x5_1 : Int) := of_decide_eq_true (by first | (with_reducible assumption) | assumption)
                have q157 : x5_1 < (l1.length : Int) := of_decide_eq_true (by first | (with_reducible assumption) | assumption)
                obtain ⟨ad157, e157, hx157_0⟩ := Kd.at_bool HR1.out x5_1 p157 q157
                cases e157
                replace p157 := eq_true p157
                replace q157 := eq_true q157
                go_wp2
                repeat (go_quiet (fail); try go_wp2)
                go_ret
                exact ⟨by first | rfl | (simp; done) | (simp [*]; done), by repeat (first | exact Drawn0.refl _ | apply Drawn0.step)⟩
              · rw [if_neg c7] at H
                have c7b0 : ((rdOf false l0 x5_1) != (rdOf false l1 x5_1)) = false := by simpa using c7
                (try (have c7b1 : decide ((rdOf false l0 x5_1) = (rdOf false l1 x5_1)) = true := by simpa using c7))
                (try (have c7b2 : ((rdOf false l0 x5_1) == (rdOf false l1 x5_1)) = true := by simpa using c7))
                clear c7
                have H' := Aside0.mk H
                clear H
                have p156 : 0 ≤ (x5_1 : Int) := of_decide_eq_true (by first | (with_reducible assumption) | assumption)
                have q156 : x5_1 < (l0.length : Int) := of_decide_eq_true (by first | (with_reducible assumption) | assumption)
                obtain ⟨ad156, e156, hx156_0⟩ := Kd.at_bool HR0.out x5_1 p156 q156
                cases e156
                replace p156 := eq_true p156
                replace q156 := eq_true q156
                have p157 : 0 ≤ (x5_1 : Int) := of_decide_eq_true (by first | (with_reducible assumption) | assumption)
                have q157 : x5_1 < (l1.length : Int) := of_decide_eq_true (by first | (with_reducible assumption) | assumption)
                obtain ⟨ad157, e157, hx157_0⟩ := Kd.at_bool HR1.out x5_1 p157 q157
                cases e157
                replace p157 := eq_true p157
                replace q157 := eq_true q157
                go_wp2
                repeat (go_quiet (fail); try go_wp2)
                go_roundg k1
                case measure => have := HK1.out; omega
                case rel => exact ⟨(wrap64 (x5_1 + 1)), (by first | rfl | (simp; done) | (simp [*]; done)), H', ⟨by have := HK1.out; omega⟩, by repeat (first | exact Drawn0.refl _ | apply Drawn0.step)⟩
            · rw [if_neg c6] at H
              exact absurd H (by simp)
          · rw [if_neg c5] at H
            exact absurd H (by simp)
        · rw [if_neg c4] at H
          have c4b0 : decide (x5_1 < (l0.length : Int)) = false := decide_eq_false c4
          clear c4
          obtain rfl := Option.some.inj H
          go_wp2
          repeat (go_quiet (fail); try go_wp2)
          go_ret
          exact ⟨by first | rfl | (simp; done) | (simp [*]; done), by repeat (first | exact Drawn0.refl _ | apply Drawn0.step)⟩
  · rw [if_neg c3] at H
    have c3b0 : ((l0.length : Int) == (l1.length : Int)) = false := beq_eq_false_iff_ne.mpr c3
    have c3b1 : ((l0.length : Int) != (l1.length : Int)) = true := bne_iff_ne.mpr c3
    have c3b2 : (l0.length == l1.length) = false := by first | simpa using c3 | (simp at c3 ⊢; omega)
    obtain rfl := Option.some.inj H
    go_enter Try.func31, Try.ntmps31
    go_wp2
    repeat (go_quiet (fail); try go_wp2)
    go_ret
    exact ⟨by first | rfl | (simp; done) | (simp [*]; done), by repeat (first | exact Drawn0.refl _ | apply Drawn0.step)⟩

/-! ### laws_eqIntS: function 32 -/
def laws_eqIntS.l0 : Nat → List Int → List Int → Int → Option (Bool)
  | 0, _, _, _ => none
  | k + 1, x0, x1, x5 => if x5 < (x0.length : Int) then (if 0 ≤ x5 then (if x5 < (x1.length : Int) then (if (rd x0 x5) = (rd x1 x5) then (laws_eqIntS.l0 k x0 x1 (wrap64 (x5 + 1))) else (some false)) else (none)) else (none)) else (some true)
def laws_eqIntS.f (k : Nat) (l0 : List Int) (l1 : List Int) : Option (Bool) := if (l0.length : Int) = (l1.length : Int) then (laws_eqIntS.l0 k l0 l1 0) else (some false)
theorem laws_eqIntS.mono_l : ∀ k, (∀ y0 y1 y2, LeO (laws_eqIntS.l0 k y0 y1 y2) (laws_eqIntS.l0 (k + 1) y0 y1 y2))
  | 0 => fun _ _ _ r h => by simp [laws_eqIntS.l0] at h
  | k + 1 => by
    have ih0 := laws_eqIntS.mono_l k
    · intro y0 y1 y2
      unfold laws_eqIntS.l0
      repeat' first
      | (with_reducible exact ih0 _ _ _)
      | (with_reducible exact LeO.refl _)
      | (with_reducible exact LeO.none _)
      | (with_reducible refine LeO.ite ?_ ?_)
      | (with_reducible refine LeO.bind ?_ (fun _ => ?_))
      | exact ih0 _ _ _
      | exact LeO.none _
      | refine LeO.ite ?_ ?_
      | refine LeO.bind ?_ (fun _ => ?_)
theorem laws_eqIntS.mono : ∀ a0 a1 k, LeO (laws_eqIntS.f k a0 a1) (laws_eqIntS.f (k + 1) a0 a1) := by
  intro a0 a1 k
  have ih0 := laws_eqIntS.mono_l k
  unfold laws_eqIntS.f
  repeat' first
      | (with_reducible exact ih0 _ _ _)
      | (with_reducible exact LeO.refl _)
      | (with_reducible exact LeO.none _)
      | (with_reducible refine LeO.ite ?_ ?_)
      | (with_reducible refine LeO.bind ?_ (fun _ => ?_))
      | exact ih0 _ _ _
      | exact LeO.none _
      | refine LeO.ite ?_ ?_
      | refine LeO.bind ?_ (fun _ => ?_)
set_option maxHeartbeats 8000000 in
set_option maxRecDepth 100000 in
theorem laws_eqIntS.calls (k : Nat) (A0 : Option Addr) (c0 : Nat) (l0 : List Int) (A1 : Option Addr) (c1 : Nat) (l1 : List Int) (r : Bool) (w : World) (hr0 : Kd.C (Kd.int .i64) w A0 l0.length l0) (hc0 : l0.length ≤ c0) (hr1 : Kd.C (Kd.int .i64) w A1 l1.length l1) (hc1 : l1.length ≤ c1) (h : laws_eqIntS.f k l0 l1 = some r) :
    Calls Try.prog 32 #[.slice A0 l0.length c0, .slice A1 l1.length c1] w fun e w' => e = .returned (.bool r) ∧ Drawn0 w w' := by
  have HR0 := Aside0.mk hr0
  have HC0 := Aside0.mk hc0
  clear hr0 hc0
  have HR1 := Aside0.mk hr1
  have HC1 := Aside0.mk hc1
  clear hr1 hc1
  have H : (if (l0.length : Int) = (l1.length : Int) then (laws_eqIntS.l0 k l0 l1 0) else (some false)) = some r := h
  clear h
  by_cases c3 : (l0.length : Int) = (l1.length : Int)
  · rw [if_pos c3] at H
    have c3b0 : ((l0.length : Int) == (l1.length : Int)) = true := beq_iff_eq.mpr c3
    have c3b1 : ((l0.length : Int) != (l1.length : Int)) = false := bne_eq_false_iff_eq.mpr c3
    have c3b2 : (l0.length == l1.length) = true := by first | simpa using c3 | (simp at c3 ⊢; omega)
    clear c3
    have H' := Aside0.mk H
    clear H
    go_enter Try.func32, Try.ntmps32
    go_wp2
    repeat (go_quiet (fail); try go_wp2)
    go_loopg [5] k (fun kq v5 w' => ∃ (x5_1 : Int), v5 = .int .i64 x5_1 ∧ Aside0 (laws_eqIntS.l0 kq l0 l1 x5_1 = some r) ∧ Aside0 (kq ≤ k) ∧ Drawn0 w w')
    case atStart => exact ⟨(0), (by first | rfl | (simp; done) | (simp [*]; done)), H', ⟨Nat.le_refl _⟩, by repeat (first | exact Drawn0.refl _ | apply Drawn0.step)⟩
    case round =>
      clear H'
      try clear c1
      try clear p2
      try clear c3
      try clear c3b0
      try clear c3b1
      try clear c3b2
      obtain ⟨x5_1, rfl, HA, HK1, ⟨m1, rfl⟩⟩ := hrel
      cases gk with
      | zero => exact absurd HA.out (by simp [laws_eqIntS.l0])
      | succ k1 =>
        have H := HA.out
        clear HA
        simp only [laws_eqIntS.l0] at H
        by_cases c4 : x5_1 < (l0.length : Int)
        · rw [if_pos c4] at H
          have c4b0 : decide (x5_1 < (l0.length : Int)) = true := decide_eq_true c4
          clear c4
          by_cases c5 : 0 ≤ x5_1
          · rw [if_pos c5] at H
            have c5b0 : decide (0 ≤ x5_1) = true := decide_eq_true c5
            clear c5
            by_cases c6 : x5_1 < (l1.length : Int)
            · rw [if_pos c6] at H
              have c6b0 : decide (x5_1 < (l1.length : Int)) = true := decide_eq_true c6
              clear c6
              by_cases c7 : (rd l0 x5_1) = (rd l1 x5_1)
              · rw [if_pos c7] at H
                have c7b0 : ((rd l0 x5_1) == (rd l1 x5_1)) = true := beq_iff_eq.mpr c7
                have c7b1 : ((rd l0 x5_1) != (rd l1 x5_1)) = false := bne_eq_false_iff_eq.mpr c7
                clear c7
                have H' := Aside0.mk H
                clear H
                have p158 : 0 ≤ (x5_1 : Int) := of_decide_eq_true (by first | (with_reducible assumption) | assumption)
                have q158 : x5_1 < (l0.length : Int) := of_decide_eq_true (by first | (with_reducible assumption) | assumption)
                obtain ⟨ad158, e158, hx158_0⟩ := Kd.at_int HR0.out x5_1 p158 q158
                cases e158
                replace p158 := eq_true p158
                replace q158 := eq_true q158
                have p159 : 0 ≤ (x5_1 : Int) := of_decide_eq_true (by first | (with_reducible assumption) | assumption)
                have q159 : x5_1 < (l1.length : Int) := of_decide_eq_true (by first | (with_reducible assumption) | assumption)
                obtain ⟨ad159, e159, hx159_0⟩ := Kd.at_int HR1.out x5_1 p159 q159
                cases e159
                replace p159 := eq_true p159
                replace q159 := eq_true q159
                go_wp2
                repeat (go_quiet (fail); try go_wp2)
                go_roundg k1
                case measure => have := HK1.out; omega
                case rel => exact ⟨(wrap64 (x5_1 + 1)), (by first | rfl | (simp; done) | (simp [*]; done)), H', ⟨by have := HK1.out; omega⟩, by repeat (first | exact Drawn0.refl _ | apply Drawn0.step)⟩
              · rw [if_neg c7] at H
                have c7b0 : ((rd l0 x5_1) == (rd l1 x5_1)) = false := beq_eq_false_iff_ne.mpr c7
                have c7b1 : ((rd l0 x5_1) != (rd l1 x5_1)) = true := bne_iff_ne.mpr c7
                obtain rfl := Option.some.inj H
                have p158 : 0 ≤ (x5_1 : Int) := of_decide_eq_true (by first | (with_reducible assumption) | assumption)
                have q158 : x5_1 < (l0.length : Int) := of_decide_eq_true (by first | (with_reducible assumption) | assumption)
                obtain ⟨ad158, e158, hx158_0⟩ := Kd.at_int HR0.out x5_1 p158 q158
                cases e158
                replace p158 := eq_true p158
                replace q158 := eq_true q158
                have p159 : 0 ≤ (x5_1 : Int) := of_decide_eq_true (by first | (with_reducible assumption) | assumption)
                have q159 : x5_1 < (l1.length : Int) := of_decide_eq_true (by first | (with_reducible assumption) | assumption)
                obtain ⟨ad159, e159, hx159_0⟩ := Kd.at_int HR1.out x5_1 p159 q159
                cases e159
                replace p159 := eq_true p159
                replace q159 := eq_true q159
                go_wp2
                repeat (go_quiet (fail); try go_wp2)
                go_ret
                exact ⟨by first | rfl | (simp; done) | (simp [*]; done), by repeat (first | exact Drawn0.refl _ | apply Drawn0.step)⟩
            · rw [if_neg c6] at H
              exact absurd H (by simp)
          · rw [if_neg c5] at H
            exact absurd H (by simp)
        · rw [if_neg c4] at H
          have c4b0 : decide (x5_1 < (l0.length : Int)) = false := decide_eq_false c4
          clear c4
          obtain rfl := Option.some.inj H
          go_wp2
          repeat (go_quiet (fail); try go_wp2)
          go_ret
          exact ⟨by first | rfl | (simp; done) | (simp [*]; done), by repeat (first | exact Drawn0.refl _ | apply Drawn0.step)⟩
  · rw [if_neg c3] at H
    have c3b0 : ((l0.length : Int) == (l1.length : Int)) = false := beq_eq_false_iff_ne.mpr c3
    have c3b1 : ((l0.length : Int) != (l1.length : Int)) = true := bne_iff_ne.mpr c3
    have c3b2 : (l0.length == l1.length) = false := by first | simpa using c3 | (simp at c3 ⊢; omega)
    obtain rfl := Option.some.inj H
    go_enter Try.func32, Try.ntmps32
    go_wp2
    repeat (go_quiet (fail); try go_wp2)
    go_ret
    exact ⟨by first | rfl | (simp; done) | (simp [*]; done), by repeat (first | exact Drawn0.refl _ | apply Drawn0.step)⟩

end Go.Proofs.Ytboginbepgopeaa.PFnExactTlbRun

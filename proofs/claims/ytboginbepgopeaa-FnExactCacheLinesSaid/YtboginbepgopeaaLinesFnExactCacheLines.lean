/- The reference's CacheLines: all lines, sorted by picking the least greater one again and again. Over the print of the law FnExactCacheLines. -/
import Derived.Test.YtboginbepgopeaaCacheFnExactCacheLines
namespace Go.Proofs.Ytboginbepgopeaa.PFnExactCacheLines
open Go.RowKit Go.Proofs.YtboginbepgopeaaW.PrintWords Go.Proofs.YtboginbepgopeaaW.PrintLast Go.Proofs.Ytboginbepgopeaa.Lem

theorem length_le_of_nodup_subset : ∀ (xs ys : List Int), xs.Nodup → (∀ x ∈ xs, x ∈ ys) → xs.length ≤ ys.length := by
  intro xs
  induction xs with
  | nil => intro ys _ _; simp
  | cons x xs ih =>
    intro ys hn hs
    have hx : x ∈ ys := hs x (by simp)
    have hn' := List.nodup_cons.1 hn
    have := ih (ys.erase x) hn'.2 (fun y hy => by
      have hne : y ≠ x := fun e => hn'.1 (e ▸ hy)
      exact (List.mem_erase_of_ne hne).2 (hs y (by simp [hy])))
    rw [List.length_erase_of_mem hx] at this
    have hpos : 0 < ys.length := List.length_pos_of_mem hx
    simp only [List.length_cons]; omega
/-- A list that only grows, all of it in ys, and nothing of ys below its last is left out. -/
structure Part (xs ys : List Int) : Prop where
  inc : xs.Pairwise (· < ·)
  sub : ∀ x ∈ xs, x ∈ ys
  low : ∀ y ∈ ys, ∀ x ∈ xs, y ≤ x → y ∈ xs
theorem inc_nodup {xs : List Int} (h : xs.Pairwise (· < ·)) : xs.Nodup := h.imp (fun h => by omega)
/-- What may be picked next. -/
def Next (xs : List Int) (y : Int) : Prop := ∀ x ∈ xs, x < y
theorem last_top {xs : List Int} (h : xs.Pairwise (· < ·)) (hp : 0 < xs.length) (y : Int) : rd xs ((xs.length - 1 : Nat) : Int) < y ↔ Next xs y := by
  have e := rd_at xs (xs.length - 1) (by omega)
  rw [e]
  constructor
  · intro hy x hx
    obtain ⟨j, hj, rfl⟩ := List.getElem_of_mem hx
    by_cases ej : j = xs.length - 1
    · subst ej; exact hy
    · have := List.pairwise_iff_getElem.1 h j (xs.length - 1) hj (by omega) (by omega)
      omega
  · intro hn; exact hn _ (List.getElem_mem _)
/-- The best of the first i: none (-1), or the least of those that may be picked. -/
def Best (xs ys : List Int) (i : Nat) (v : Int) : Prop :=
  (v < 0 ∧ ∀ j (h : j < ys.length), j < i → ¬ Next xs ys[j]) ∨ (0 ≤ v ∧ v ∈ ys ∧ Next xs v ∧ ∀ j (h : j < ys.length), j < i → Next xs ys[j] → v ≤ ys[j])
noncomputable instance (xs : List Int) (y : Int) : Decidable (Next xs y) := Classical.propDecidable _
theorem pick_step (xs ys : List Int) (h0 : ∀ y ∈ ys, 0 ≤ y) (i : Nat) (hi : i < ys.length) (v : Int) (hb : Best xs ys i v) :
    Best xs ys (i + 1) (if Next xs ys[i] ∧ (v < 0 ∨ ys[i] < v) then ys[i] else v) := by
  have hy : 0 ≤ ys[i] := h0 _ (List.getElem_mem _)
  by_cases hc : Next xs ys[i] ∧ (v < 0 ∨ ys[i] < v)
  · rw [if_pos hc]
    refine .inr ⟨hy, List.getElem_mem _, hc.1, fun j h hj hn => ?_⟩
    by_cases ej : j = i
    · subst ej; omega
    · rcases hb with ⟨_, hb⟩ | ⟨hv, _, _, hb⟩
      · exact absurd hn (hb j h (by omega))
      · have := hb j h (by omega) hn
        rcases hc.2 with h1 | h1 <;> omega
  · rw [if_neg hc]
    rcases hb with ⟨hv, hb⟩ | ⟨hv, hm, hn, hb⟩
    · refine .inl ⟨hv, fun j h hj hnx => ?_⟩
      by_cases ej : j = i
      · subst ej; exact hc ⟨hnx, .inl hv⟩
      · exact hb j h (by omega) hnx
    · refine .inr ⟨hv, hm, hn, fun j h hj hnx => ?_⟩
      by_cases ej : j = i
      · subst ej
        have : ¬ ys[j] < v := fun h' => hc ⟨hnx, .inr h'⟩
        omega
      · exact hb j h (by omega) hnx
theorem l3_step (xs ys : List Int) (hx : xs.length ≤ 1048576) (hy : ys.length ≤ 1048576) (hinc : xs.Pairwise (· < ·)) (i : Nat) (hi : i < ys.length) (v : Int) (k : Nat) :
    spec_CacheLines.l3 (k + 1) xs ys v i = spec_CacheLines.l3 k xs ys (if Next xs ys[i] ∧ (v < 0 ∨ ys[i] < v) then ys[i] else v) ((i + 1 : Nat) : Int) := by
  have hr := rd_at ys i hi
  have hw : wrap64 ((i : Int) + 1) = ((i + 1 : Nat) : Int) := by rw [w64 (by omega) (by omega)]; rfl
  simp only [spec_CacheLines.l3, hr, hw]
  rw [if_pos (by omega)]
  by_cases he : (xs.length : Int) = 0
  · rw [if_pos he]
    have hn : Next xs ys[i] := by
      intro x hx'
      obtain rfl : xs = [] := List.eq_nil_of_length_eq_zero (by omega)
      simp at hx'
    by_cases hv : v < 0
    · rw [if_pos hv, if_pos (by omega), if_pos ⟨hn, .inl hv⟩]
    · rw [if_neg hv, if_pos (by omega)]
      by_cases hl : ys[i] < v
      · rw [if_pos hl, if_pos ⟨hn, .inr hl⟩]
      · rw [if_neg hl, if_neg (fun h => by rcases h.2 with h | h <;> omega)]
  · have hw2 : wrap64 ((xs.length : Int) - 1) = ((xs.length - 1 : Nat) : Int) := by rw [w64 (by omega) (by omega)]; omega
    have hlt := last_top hinc (by omega) ys[i]
    rw [if_neg he, if_pos (by omega), hw2, if_pos (by omega), if_pos (by omega)]
    by_cases hg : ys[i] > rd xs ((xs.length - 1 : Nat) : Int)
    · have hn := hlt.1 hg
      rw [if_pos hg]
      by_cases hv : v < 0
      · rw [if_pos hv, if_pos ⟨hn, .inl hv⟩]
      · rw [if_neg hv]
        by_cases hl : ys[i] < v
        · rw [if_pos hl, if_pos ⟨hn, .inr hl⟩]
        · rw [if_neg hl, if_neg (fun h => by rcases h.2 with h | h <;> omega)]
    · rw [if_neg hg, if_neg (fun h => hg (hlt.2 h.1))]
theorem l3_is (xs ys : List Int) (hx : xs.length ≤ 1048576) (hy : ys.length ≤ 1048576) (h0 : ∀ y ∈ ys, 0 ≤ y) (hinc : xs.Pairwise (· < ·)) (Rr : List Int) :
    ∀ d i : Nat, i + d = ys.length → ∀ v, Best xs ys i v → (∀ v, Best xs ys ys.length v → Evt (fun k => spec_CacheLines.l2 k (xs ++ [v]) ys) Rr) → Evt (fun k => spec_CacheLines.l3 k xs ys v i) Rr := by
  intro d
  induction d with
  | zero =>
    intro i hi v hb hn
    obtain rfl : i = ys.length := by omega
    refine ev_step (fun k => ?_) (hn v hb)
    simp only [spec_CacheLines.l3]
    rw [if_neg (by omega), if_pos (by omega)]
  | succ d ih =>
    intro i hi v hb hn
    exact ev_step (fun k => l3_step xs ys hx hy hinc i (by omega) v k) (ih (i + 1) (by omega) _ (pick_step xs ys h0 i (by omega) v hb) hn)
theorem l2_is (ys : List Int) (hy : ys.length ≤ 1048576) (h0 : ∀ y ∈ ys, 0 ≤ y) (hnd : ys.Nodup) : ∀ d (xs : List Int), xs.length + d = ys.length → Part xs ys →
    ∃ r, Evt (fun k => spec_CacheLines.l2 k xs ys) r ∧ r.Pairwise (· < ·) ∧ ∀ y, y ∈ r ↔ y ∈ ys := by
  intro d
  induction d with
  | zero =>
    intro xs hl hp
    refine ⟨xs, ev_end fun k => ?_, hp.inc, fun y => ⟨hp.sub y, fun hyy => ?_⟩⟩
    · simp only [spec_CacheLines.l2]; rw [if_neg (by omega)]
    · refine Classical.byContradiction fun hne => ?_
      have := length_le_of_nodup_subset (y :: xs) ys (List.nodup_cons.2 ⟨hne, inc_nodup hp.inc⟩) (fun x hx => by
        rcases List.mem_cons.1 hx with rfl | hx
        · exact hyy
        · exact hp.sub x hx)
      simp only [List.length_cons] at this; omega
  | succ d ih =>
    intro xs hl hp
    -- one is left
    have hex : ∃ y ∈ ys, y ∉ xs := by
      refine Classical.byContradiction fun hne => ?_
      have := length_le_of_nodup_subset ys xs hnd (fun y hyy => Classical.byContradiction fun h => hne ⟨y, hyy, h⟩)
      omega
    obtain ⟨y, hyy, hyx⟩ := hex
    have hny : Next xs y := fun x hx => by
      have : ¬ y ≤ x := fun h => hyx (hp.low y hyy x hx h)
      omega
    obtain ⟨jy, hjy, ejy⟩ := List.getElem_of_mem hyy
    have step : ∀ v, Best xs ys ys.length v → Part (xs ++ [v]) ys := by
      intro v hb
      rcases hb with ⟨_, hb⟩ | ⟨hv, hm, hn, hb⟩
      · exact absurd (ejy ▸ hny) (hb jy hjy hjy)
      · refine ⟨List.pairwise_append.2 ⟨hp.inc, by simp, fun a ha b hb' => by simp at hb'; subst hb'; exact hn a ha⟩, ?_, ?_⟩
        · intro x hx
          rcases List.mem_append.1 hx with hx | hx
          · exact hp.sub x hx
          · simp at hx; subst hx; exact hm
        · intro z hz x hx hzx
          refine Classical.byContradiction fun hne => ?_
          have hzx' : z ∉ xs := fun h => hne (List.mem_append.2 (.inl h))
          have hzv : z ≠ v := fun h => hne (List.mem_append.2 (.inr (by simp [h])))
          have hnz : Next xs z := fun x hx => by
            have : ¬ z ≤ x := fun h => hzx' (hp.low z hz x hx h)
            omega
          obtain ⟨jz, hjz, ejz⟩ := List.getElem_of_mem hz
          have hvz := hb jz hjz hjz (ejz ▸ hnz)
          rw [ejz] at hvz
          rcases List.mem_append.1 hx with hx | hx
          · have := hnz x hx; omega
          · simp at hx; omega
    -- the pick is one for all ends: the least that may be picked
    have hall : ∀ v w, Best xs ys ys.length v → Best xs ys ys.length w → v = w := by
      intro v w hv hw
      rcases hv with ⟨_, hb⟩ | ⟨_, hm, hn, hb⟩
      · exact absurd (ejy ▸ hny) (hb jy hjy hjy)
      · rcases hw with ⟨_, hb'⟩ | ⟨_, hm', hn', hb'⟩
        · exact absurd (ejy ▸ hny) (hb' jy hjy hjy)
        · obtain ⟨a, ha, ea⟩ := List.getElem_of_mem hm
          obtain ⟨b, hb1, eb⟩ := List.getElem_of_mem hm'
          have h1 := hb b hb1 hb1 (eb ▸ hn')
          have h2 := hb' a ha ha (ea ▸ hn)
          omega
    have hBest : ∃ v, Best xs ys ys.length v := by
      have key : ∀ i, i ≤ ys.length → ∃ v, Best xs ys i v := by
        intro i
        induction i with
        | zero => intro _; exact ⟨-1, .inl ⟨by omega, fun j h hj => absurd hj (by omega)⟩⟩
        | succ i ih' =>
          intro hi
          obtain ⟨v, hv⟩ := ih' (by omega)
          exact ⟨_, pick_step xs ys h0 i (by omega) v hv⟩
      exact key _ (Nat.le_refl _)
    obtain ⟨v, hv⟩ := hBest
    obtain ⟨r, r1, r2, r3⟩ := ih (xs ++ [v]) (by simp; omega) (step v hv)
    refine ⟨r, ev_step (g := fun k => spec_CacheLines.l3 k xs ys (-1) ((0 : Nat) : Int)) (fun k => ?_) ?_, r2, r3⟩
    · simp only [spec_CacheLines.l2]; rw [if_pos (by omega)]; rfl
    · refine l3_is xs ys (by omega) hy h0 hp.inc r ys.length 0 (by omega) (-1) (.inl ⟨by omega, fun j h hj => absurd hj (by omega)⟩) (fun w hw => ?_)
      rw [hall w v hw hv]; exact r1

/-! ### the lines of a cache -/
def rowLines (a : Int) (s : Nat) (ws : List S103) : List Int := ws.map (fun w => w.f0 * a + s)
def allLines (a : Int) : Nat → List (List S103) → List Int
  | _, [] => []
  | s, r :: rs => rowLines a s r ++ allLines a (s + 1) rs
theorem mem_all (a : Int) : ∀ (l : List (List S103)) (i : Nat) (y : Int), y ∈ allLines a i l ↔ ∃ s : Nat, ∃ h : s < l.length, ∃ w ∈ l[s], y = w.f0 * a + ((i + s : Nat) : Int) := by
  intro l
  induction l with
  | nil => intro i y; simp [allLines]
  | cons r rs ih =>
    intro i y
    simp only [allLines, List.mem_append, ih, rowLines, List.mem_map]
    constructor
    · rintro (⟨w, hw, rfl⟩ | ⟨s, h, w, hw, rfl⟩)
      · exact ⟨0, by simp, w, by simpa using hw, by simp⟩
      · exact ⟨s + 1, by simpa using h, w, by simpa using hw, by congr 1; omega⟩
    · rintro ⟨s, h, w, hw, rfl⟩
      cases s with
      | zero => exact .inl ⟨w, by simpa using hw, by simp⟩
      | succ s => exact .inr ⟨s, by simpa using h, w, by simpa using hw, by congr 1; omega⟩
theorem mod_line {a t s : Int} (h0 : 0 ≤ s) (h1 : s < a) : (t * a + s) % a = s ∧ (t * a + s) / a = t := by
  constructor
  · rw [Int.add_comm, Int.add_mul_emod_self_right]; exact Int.emod_eq_of_lt h0 h1
  · rw [Int.add_comm, Int.add_mul_ediv_right _ _ (by omega), Int.ediv_eq_zero_of_lt h0 h1]; omega
theorem nodup_all (a : Int) : ∀ (l : List (List S103)) (i : Nat), ((i + l.length : Nat) : Int) ≤ a → (∀ j (h : j < l.length), WaysFrom l[j] 0) → (allLines a i l).Nodup := by
  intro l
  induction l with
  | nil => intro i _ _; simp [allLines]
  | cons r rs ih =>
    intro i hi hw
    simp only [List.length_cons] at hi
    simp only [allLines]
    refine List.nodup_append.2 ⟨?_, ih (i + 1) (by omega) (fun j h => hw (j + 1) (by simp only [List.length_cons]; omega)), ?_⟩
    · have h0 : WaysFrom r 0 := hw 0 (by simp)
      unfold rowLines
      refine List.pairwise_map.2 (List.pairwise_iff_getElem.2 fun p q hp hq hpq he => ?_)
      have e1 := (mod_line (t := r[p].f0) (s := (i : Int)) (a := a) (by omega) (by omega)).2
      have e2 := (mod_line (t := r[q].f0) (s := (i : Int)) (a := a) (by omega) (by omega)).2
      rw [he, e2] at e1
      exact (h0 q hq (by omega)).2.2 p hpq e1.symm
    · intro x hx y hy he
      unfold rowLines at hx
      obtain ⟨w, _, rfl⟩ := List.mem_map.1 hx
      obtain ⟨s, h, w', _, rfl⟩ := (mem_all a rs (i + 1) y).1 hy
      have e1 := (mod_line (t := w.f0) (s := (i : Int)) (a := a) (by omega) (by omega)).1
      have e2 := (mod_line (t := w'.f0) (s := ((i + 1 + s : Nat) : Int)) (a := a) (by omega) (by omega)).1
      rw [he, e2] at e1
      omega
theorem l1_is (x3 : List Int) (a b c : Int) (ha : 1 ≤ a ∧ a ≤ 16) (l : List (List S103)) (hl : (l.length : Int) = a) (i : Nat) (hi : i < l.length) (hrl : l[i].length ≤ 1048576) (hw : WaysFrom l[i] 0) (r : List Int) :
    ∀ d j : Nat, j + d = l[i].length → ∀ acc : List Int, acc.length + d ≤ 1048576 → Evt (fun k => spec_CacheLines.l0 k x3 (acc ++ rowLines a i (l[i].drop j)) ((i + 1 : Nat) : Int) a b c l) r → Evt (fun k => spec_CacheLines.l1 k x3 acc i j a b c l) r := by
  have hrow : rd_L3 l i = l[i] := by unfold rd_L3; simp [hi]
  intro d
  induction d with
  | zero =>
    intro j hj acc hacc h
    rw [List.drop_of_length_le (by omega)] at h
    refine ev_step (fun k => ?_) h
    simp only [spec_CacheLines.l1, hrow, rowLines, List.map_nil, List.append_nil]
    rw [if_pos (by omega), if_pos (by omega), if_neg (by omega), w64 (by omega) (by omega)]; rfl
  | succ d ih =>
    intro j hj acc hacc h
    have hjl : j < l[i].length := by omega
    obtain ⟨t0, t1, _⟩ := hw j hjl (by omega)
    have hm : 0 ≤ l[i][j].f0 * a ∧ l[i][j].f0 * a ≤ 65535 * 16 := by
      refine ⟨Int.mul_nonneg t0 (by omega), ?_⟩
      exact Int.mul_le_mul t1 ha.2 (by omega) (by omega)
    rw [List.drop_eq_getElem_cons hjl] at h
    have h' := ih (j + 1) (by omega) (acc ++ [l[i][j].f0 * a + i]) (by simp; omega) (by
      have e : acc ++ [l[i][j].f0 * a + i] ++ rowLines a i (l[i].drop (j + 1)) = acc ++ rowLines a i (l[i][j] :: l[i].drop (j + 1)) := by
        simp only [rowLines, List.map_cons, List.append_assoc]; rfl
      rw [e]; exact h)
    refine ev_step (fun k => ?_) h'
    simp only [spec_CacheLines.l1, hrow, rdT l[i] j hjl]
    rw [if_pos (by omega), if_pos (by omega), if_pos (by omega), if_pos (by omega), if_pos (by omega), w64 (n := l[i][j].f0 * a) (by omega) (by omega), w64 (n := l[i][j].f0 * a + i) (by omega) (by omega), w64 (by omega) (by omega)]
    rfl
theorem l0_is (x3 : List Int) (a b c : Int) (l : List (List S103)) (hg : GoodC a b c l) (r : List Int) :
    ∀ d i : Nat, i + d = l.length → ∀ acc : List Int, acc.length ≤ 4 * i → Evt (fun k => spec_CacheLines.l2 k x3 (acc ++ allLines a i (l.drop i))) r → Evt (fun k => spec_CacheLines.l0 k x3 acc i a b c l) r := by
  obtain ⟨⟨ha, hb0, hb1, _⟩, hl, hw⟩ := hg
  intro d
  induction d with
  | zero =>
    intro i hi acc hacc h
    rw [List.drop_of_length_le (by omega)] at h
    refine ev_step (fun k => ?_) h
    simp only [spec_CacheLines.l0, allLines, List.append_nil]
    rw [if_neg (by omega)]
  | succ d ih =>
    intro i hi acc hacc h
    have hlt : i < l.length := by omega
    obtain ⟨hwl, hwi⟩ := hw i hlt
    rw [List.drop_eq_getElem_cons hlt] at h
    simp only [allLines, ← List.append_assoc] at h
    have h1 := ih (i + 1) (by omega) (acc ++ rowLines a i l[i]) (by simp [rowLines]; omega) h
    refine ev_step (g := fun k => spec_CacheLines.l1 k x3 acc i ((0 : Nat) : Int) a b c l) (fun k => ?_) (l1_is x3 a b c (by omega) l hl i hlt (by omega) hwi r l[i].length 0 (by omega) acc (by omega) (by simpa using h1))
    simp only [spec_CacheLines.l0]
    rw [if_pos (by omega)]; rfl
theorem all_len (a b c : Int) (l : List (List S103)) (hg : GoodC a b c l) : (allLines a 0 l).length ≤ 64 := by
  obtain ⟨⟨ha, hb0, hb1, _⟩, hl, hw⟩ := hg
  have hlen : ∀ (rs : List (List S103)) (i : Nat), (∀ x ∈ rs, x.length ≤ 4) → (allLines a i rs).length ≤ 4 * rs.length := by
    intro rs
    induction rs with
    | nil => intro i _; simp [allLines]
    | cons x rs ih =>
      intro i h
      have h1 := ih (i + 1) (fun y hy => h y (by simp [hy]))
      have h2 := h x (by simp)
      simp only [allLines, List.length_append, rowLines, List.length_map, List.length_cons]; omega
  have h4 : (allLines a 0 l).length ≤ 4 * l.length := hlen l 0 (fun x hx => by
    obtain ⟨j, hj, rfl⟩ := List.getElem_of_mem hx
    have := (hw j hj).1; omega)
  omega
/-- The reference's CacheLines of a good cache. -/
theorem lines_good (a b c : Int) (l : List (List S103)) (hg : GoodC a b c l) : ∃ r, Evt (fun k => spec_CacheLines.l0 k [] [] ((0 : Nat) : Int) a b c l) r ∧ r.Pairwise (· < ·) ∧ ∀ y, y ∈ r ↔ y ∈ allLines a 0 l := by
  obtain ⟨⟨ha, hb0, hb1, _⟩, hl, hw⟩ := id hg
  have h4 := all_len a b c l hg
  have hnn : ∀ y ∈ allLines a 0 l, 0 ≤ y := by
    intro y hy
    obtain ⟨s, h, w, hw', rfl⟩ := (mem_all a l 0 y).1 hy
    obtain ⟨j, hj, rfl⟩ := List.getElem_of_mem hw'
    have := ((hw s h).2 j hj (by omega)).1
    have := Int.mul_nonneg this (show 0 ≤ a by omega)
    omega
  obtain ⟨r, r1, r2, r3⟩ := l2_is (allLines a 0 l) (by omega) hnn (nodup_all a l 0 (by omega) (fun j h => (hw j h).2)) (allLines a 0 l).length [] (by simp) ⟨by simp, by simp, by simp⟩
  exact ⟨r, l0_is [] a b c l hg r l.length 0 (by omega) [] (by simp) (by simpa using r1), r2, r3⟩

end Go.Proofs.Ytboginbepgopeaa.PFnExactCacheLines

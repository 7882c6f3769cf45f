/- What a Cache is asked (size, copy, equality, CacheOk), in the reference and in the program, over the print of the law FnExactCacheLines. Rounds are told by "from some number on". -/
import Derived.Test.YtboginbepgopeaaPFnExactCacheLinesx
import Derived.Test.YtboginbepgopeaaLem
import Derived.Test.YtboginbepgopeaaShapeFnExactCacheLines
namespace Go.Proofs.Ytboginbepgopeaa.PFnExactCacheLines
open Go.RowKit Go.Proofs.YtboginbepgopeaaW.PrintWords Go.Proofs.YtboginbepgopeaaW.PrintLast Go.Proofs.Ytboginbepgopeaa.Lem

/-- From some number of rounds on, f gives r. -/
def Evt {α : Type} (f : Nat → Option α) (r : α) : Prop := ∃ K, ∀ k, K ≤ k → f k = some r
theorem ev_of {α : Type} {f : Nat → Option α} {r : α} (h : ∀ k, f k = some r) : Evt f r := ⟨0, fun k _ => h k⟩
theorem ev_step {α : Type} {f g : Nat → Option α} {r : α} (h : ∀ k, f (k + 1) = g k) (hg : Evt g r) : Evt f r := by
  obtain ⟨K, hK⟩ := hg
  refine ⟨K + 1, fun k hk => ?_⟩
  obtain ⟨k, rfl⟩ : ∃ m, k = m + 1 := ⟨k - 1, by omega⟩
  rw [h, hK k (by omega)]
theorem ev_end {α : Type} {f : Nat → Option α} {r : α} (h : ∀ k, f (k + 1) = some r) : Evt f r := ev_step (g := fun _ => some r) h (ev_of fun _ => rfl)
theorem ev_bind {α β : Type} {g : Nat → Option α} {h : Nat → α → Option β} {t : α} {r : β} (hg : Evt g t) (hh : Evt (fun k => h k t) r) : Evt (fun k => (g k).bind (h k)) r := by
  obtain ⟨K, hK⟩ := hg
  obtain ⟨M, hM⟩ := hh
  refine ⟨K + M, fun k hk => ?_⟩
  simp only [hK k (by omega), Option.bind_some]
  exact hM k (by omega)
theorem ev_both {α β : Type} {f : Nat → Option α} {g : Nat → Option β} {r : α} {s : β} (hf : Evt f r) (hg : Evt g s) : Evt (fun k => (f k).bind fun a => (g k).bind fun b => some (a, b)) (r, s) :=
  ev_bind hf (ev_bind hg (ev_of fun _ => rfl))
/-- A scan that ends at n. -/
theorem ev_scan {α : Type} (g : Nat → Int → Option α) (r : α) (n : Nat) (hs : ∀ i : Nat, i < n → Evt (fun k => g k ((i + 1 : Nat) : Int)) r → Evt (fun k => g k i) r) (he : Evt (fun k => g k n) r) :
    Evt (fun k => g k 0) r := by
  have key : ∀ d i : Nat, i + d = n → Evt (fun k => g k i) r := by
    intro d
    induction d with
    | zero => intro i hi; obtain rfl : i = n := by omega
              exact he
    | succ d ih => intro i hi; exact hs i (by omega) (ih (i + 1) (by omega))
  simpa using key n 0 (by omega)
/-- A list that is turned, one by one, into a new one. -/
theorem ev_copy {α β : Type} (z : β) (cv : α → β) (l : List α) (g : Nat → List β → Int → Option (List β))
    (hs : ∀ (x : List β) (i : Nat) (h : i < l.length) (r : List β), x.length = l.length → Evt (fun k => g k (x.set i (cv l[i])) ((i + 1 : Nat) : Int)) r → Evt (fun k => g k x i) r)
    (he : ∀ x : List β, x.length = l.length → Evt (fun k => g k x l.length) x) : Evt (fun k => g k (List.replicate l.length z) 0) (l.map cv) := by
  have key : ∀ d i : Nat, i + d = l.length → Evt (fun k => g k ((l.map cv).take i ++ List.replicate d z) i) (l.map cv) := by
    intro d
    induction d with
    | zero =>
      intro i hi
      obtain rfl : i = l.length := by omega
      have := he ((l.map cv).take l.length ++ List.replicate 0 z) (by simp)
      have e : (l.map cv).take l.length ++ List.replicate 0 z = l.map cv := by
        rw [List.take_of_length_le (by simp)]; simp
      rw [e] at this ⊢; exact this
    | succ d ih =>
      intro i hi
      have hlt : i < l.length := by omega
      refine hs _ i hlt _ (by simp; omega) ?_
      have e : ((l.map cv).take i ++ List.replicate (d + 1) z).set i (cv l[i]) = (l.map cv).take (i + 1) ++ List.replicate d z := by
        rw [List.set_append_right _ _ (by simp; omega)]
        have : i - ((l.map cv).take i).length = 0 := by simp; omega
        rw [this, List.replicate_succ, List.set_cons_zero, List.take_succ_eq_append_getElem (by simpa using hlt), List.append_assoc]
        simp
      rw [e]
      exact ih (i + 1) (by omega)
  have := key l.length 0 (by omega)
  simpa using this

/-! ### size, copy, equality -/
def cv (x : S133) : S103 := ⟨x.f0, x.f1⟩
theorem sz_is (x0 : List (List S133)) (hm : ∀ x ∈ x0, x.length ≤ 9223372036854775807) (hl : x0.length ≤ 1048576) : ∀ d i : Nat, i + d = x0.length → ∀ x1 : Int, 0 ≤ x1 → x1 ≤ 1048576 →
    ∃ s, Evt (fun k => laws_szWaySS.l0 k x0 x1 i) s ∧ (s < 0 ∨ ∀ j (h : j < x0.length), i ≤ j → x0[j].length ≤ 1048576) := by
  intro d
  induction d with
  | zero =>
    intro i hi x1 h0 h1
    refine ⟨x1, ev_end fun k => ?_, .inr fun j h hj => absurd h (by omega)⟩
    simp only [laws_szWaySS.l0]; rw [if_neg (by omega)]
  | succ d ih =>
    intro i hi x1 h0 h1
    have hlt : i < x0.length := by omega
    have hrow : rd_L5 x0 i = x0[i] := by unfold rd_L5; simp [hlt]
    have hr : x0[i].length ≤ 9223372036854775807 := hm _ (List.getElem_mem _)
    have hz : laws_szWayS.f x0[i] x1 = if x1 - (x0[i].length : Int) < 0 then some (-1) else some (x1 - (x0[i].length : Int)) := by
      unfold laws_szWayS.f; rw [w64 (by omega) (by omega)]
    by_cases hc : x1 - (x0[i].length : Int) < 0
    · refine ⟨-1, ev_end fun k => ?_, .inl (by omega)⟩
      simp only [laws_szWaySS.l0, hrow, hz]
      rw [if_pos (by omega), if_pos (by omega), if_pos hc]
      rfl
    · obtain ⟨s, e, hs⟩ := ih (i + 1) (by omega) (x1 - (x0[i].length : Int)) (by omega) (by omega)
      refine ⟨s, ev_step (fun k => ?_) e, ?_⟩
      · simp only [laws_szWaySS.l0, hrow, hz]
        rw [if_pos (by omega), if_pos (by omega), if_neg hc, Option.bind_some, if_neg hc, w64 (by omega) (by omega)]
        rfl
      · rcases hs with hs | hs
        · exact .inl hs
        · refine .inr fun j h hj => ?_
          by_cases ej : j = i
          · subst ej; omega
          · exact hs j h (by omega)
/-- The size that the statement lets in: what is told of it. -/
theorem size_is (a b c : Int) (l : List (List S133)) (hl : l.length ≤ 9223372036854775807) (hm : ∀ x ∈ l, x.length ≤ 9223372036854775807) :
    ∃ s, Evt (fun k => laws_szCache.f k a b c l 1048576) s ∧ (s < 0 ∨ (l.length ≤ 1048576 ∧ ∀ x ∈ l, x.length ≤ 1048576)) := by
  unfold laws_szCache.f laws_szWaySS.f
  rw [w64 (by omega) (by omega)]
  by_cases h : 1048576 - (l.length : Int) < 0
  · refine ⟨-1, ev_of fun k => ?_, .inl (by omega)⟩
    rw [if_pos h]; rfl
  · simp only [if_neg h]
    obtain ⟨s, e, hs⟩ := sz_is l hm (by omega) l.length 0 (by omega) (1048576 - (l.length : Int)) (by omega) (by omega)
    by_cases h0 : s < 0
    · refine ⟨-1, ev_bind (t := s) e (ev_of fun k => ?_), .inl (by omega)⟩
      rw [if_pos h0]
    · refine ⟨s, ev_bind (t := s) e (ev_of fun k => ?_), ?_⟩
      · rw [if_neg h0]
      · rcases hs with hs | hs
        · exact absurd hs h0
        · refine .inr ⟨by omega, fun x hx => ?_⟩
          obtain ⟨j, hj, rfl⟩ := List.getElem_of_mem hx
          exact hs j hj (by omega)
theorem toS_is (l : List S133) (hl : l.length ≤ 1048576) : Evt (fun k => laws_toWayS.f k l) (l.map cv) := by
  unfold laws_toWayS.f
  simp only [Int.toNat_natCast, if_pos (show 0 ≤ (l.length : Int) by omega), if_pos (show l.length ≤ 17592186044416 by omega)]
  refine ev_copy z103 cv l (fun k x i => laws_toWayS.l0 k l x i) ?_ ?_
  · intro x i h r hx hr
    refine ev_step (fun k => ?_) hr
    simp only [laws_toWayS.l0, laws_toWay.f, Option.bind_some, Int.toNat_natCast]
    rw [if_pos (by omega), if_pos (by omega), if_pos (by omega), w64 (by omega) (by omega)]
    have : rd_T133 l i = l[i] := by unfold rd_T133; simp [h]
    rw [this]; rfl
  · intro x hx
    refine ev_end fun k => ?_
    simp only [laws_toWayS.l0]; rw [if_neg (by omega)]
theorem toSS_is (l : List (List S133)) (hl : l.length ≤ 1048576) (hm : ∀ x ∈ l, x.length ≤ 1048576) : Evt (fun k => laws_toWaySS.f k l) (l.map (·.map cv)) := by
  unfold laws_toWaySS.f
  simp only [Int.toNat_natCast, if_pos (show 0 ≤ (l.length : Int) by omega), if_pos (show l.length ≤ 11728124029610 by omega)]
  refine ev_copy [] (fun y : List S133 => y.map cv) l (fun k x i => laws_toWaySS.l0 k l x i) ?_ ?_
  · intro x i h r hx hr
    have hrow : rd_L5 l i = l[i] := by unfold rd_L5; simp [h]
    refine ev_step (g := fun k => (laws_toWayS.f k l[i]).bind fun t => laws_toWaySS.l0 k l (x.set i t) ((i + 1 : Nat) : Int)) (fun k => ?_) (ev_bind (toS_is l[i] (hm _ (List.getElem_mem _))) hr)
    simp only [laws_toWaySS.l0, hrow, Int.toNat_natCast]
    rw [if_pos (by omega), if_pos (by omega), w64 (by omega) (by omega)]
    simp only [if_pos (show (i : Int) < (x.length : Int) by omega)]
    rfl
  · intro x hx
    refine ev_end fun k => ?_
    simp only [laws_toWaySS.l0]; rw [if_neg (by omega)]
theorem toCache_is (a b c : Int) (l : List (List S133)) (hl : l.length ≤ 1048576) (hm : ∀ x ∈ l, x.length ≤ 1048576) : Evt (fun k => laws_toCache.f k a b c l) (a, b, c, l.map (·.map cv)) := by
  unfold laws_toCache.f laws_toShape.f
  simp only [Option.bind_some]
  exact ev_bind (toSS_is l hl hm) (ev_of fun _ => rfl)
theorem eqS_is (l : List S103) (hl : l.length ≤ 1048576) : Evt (fun k => laws_eqWayS.f k l l) true := by
  unfold laws_eqWayS.f
  simp only [if_true]
  refine ev_scan (fun k i => laws_eqWayS.l0 k l l i) true l.length ?_ ?_
  · intro i h hr
    refine ev_step (fun k => ?_) hr
    simp only [laws_eqWayS.l0, laws_eqWay.f]
    rw [if_pos (by omega), if_pos (by omega), if_pos (by omega), w64 (by omega) (by omega)]
    simp
  · refine ev_end fun k => ?_
    simp only [laws_eqWayS.l0]; rw [if_neg (by omega)]
theorem eqSS_is (l : List (List S103)) (hl : l.length ≤ 1048576) (hm : ∀ x ∈ l, x.length ≤ 1048576) : Evt (fun k => laws_eqWaySS.f k l l) true := by
  unfold laws_eqWaySS.f
  simp only [if_true]
  refine ev_scan (fun k i => laws_eqWaySS.l0 k l l i) true l.length ?_ ?_
  · intro i h hr
    have hrow : rd_L3 l i = l[i] := by unfold rd_L3; simp [h]
    refine ev_step (g := fun k => (laws_eqWayS.f k l[i] l[i]).bind fun t => if t = true then laws_eqWaySS.l0 k l l ((i + 1 : Nat) : Int) else some false) (fun k => ?_)
      (ev_bind (eqS_is l[i] (hm _ (List.getElem_mem _))) (by simpa using hr))
    simp only [laws_eqWaySS.l0, hrow]
    rw [if_pos (by omega), if_pos (by omega), if_pos (by omega), w64 (by omega) (by omega)]
    rfl
  · refine ev_end fun k => ?_
    simp only [laws_eqWaySS.l0]; rw [if_neg (by omega)]
theorem eqCache_is (a b c : Int) (l : List (List S103)) (hl : l.length ≤ 1048576) (hm : ∀ x ∈ l, x.length ≤ 1048576) : Evt (fun k => laws_eqCache.f k a b c l a b c l) true := by
  unfold laws_eqCache.f laws_eqShape.f
  simp only [if_true, Option.bind_some]
  exact ev_bind (eqSS_is l hl hm) (ev_of fun _ => rfl)

/-! ### CacheOk -/
theorem wix (tag : Int) : ∀ (l : List S103) (i : Int), ((∀ x ∈ l, x.f0 ≠ tag) ∧ impl_wayIndex.g tag l i = -1) ∨ ∃ m : Nat, ∃ h : m < l.length, l[m].f0 = tag ∧ (∀ j (hj : j < m), l[j].f0 ≠ tag) ∧ impl_wayIndex.g tag l i = i + m := by
  intro l
  induction l with
  | nil => intro i; exact .inl ⟨by simp, rfl⟩
  | cons x l ih =>
    intro i
    by_cases e : x.f0 = tag
    · exact .inr ⟨0, by simp, by simpa using e, fun j hj => absurd hj (by omega), by simp [impl_wayIndex.g, e]⟩
    · rcases ih (i + 1) with ⟨h1, h2⟩ | ⟨m, h, h1, h2, h3⟩
      · refine .inl ⟨?_, by simp [impl_wayIndex.g, e, h2]⟩
        intro y hy
        rcases List.mem_cons.1 hy with rfl | hy
        · exact e
        · exact h1 y hy
      · refine .inr ⟨m + 1, by simpa using h, by simpa using h1, ?_, by simp [impl_wayIndex.g, e, h3]; omega⟩
        intro j hj
        cases j with
        | zero => simpa using e
        | succ j => simpa using h2 j (by omega)
/-- The first place of a tag is below j. -/
theorem wix_lt (l : List S103) (j : Nat) (hj : j < l.length) : impl_wayIndex.g (l[j].f0) l 0 < (j : Int) ↔ ∃ m : Nat, ∃ h : m < j, l[m].f0 = l[j].f0 := by
  rcases wix (l[j].f0) l 0 with ⟨h1, _⟩ | ⟨m, h, h1, h2, h3⟩
  · exact absurd rfl (h1 _ (List.getElem_mem hj))
  · rw [h3]
    constructor
    · intro hm; exact ⟨m, by omega, h1⟩
    · rintro ⟨q, hq, e⟩
      have : ¬ q < m := fun hqm => h2 q hqm e
      omega
theorem rdT (l : List S103) (i : Nat) (h : i < l.length) : rd_T103 l (i : Int) = l[i] := by unfold rd_T103; simp [h]
/-- A set's ways as CacheOk wants them, from the j-th on. -/
def WaysFrom (l : List S103) (j : Nat) : Prop := ∀ i (h : i < l.length), j ≤ i → 0 ≤ l[i].f0 ∧ l[i].f0 ≤ 65535 ∧ ∀ m (hm : m < i), l[m].f0 ≠ l[i].f0
theorem dup_is (ws : List S103) (hw : ws.length ≤ 1048576) (x3 : Int) (j : Nat) (hj : j < ws.length) (a b c : Int) (l : List (List S103)) (r : Bool) (hn : Evt (fun k => spec_CacheOk.l1 k x3 ws ((j + 1 : Nat) : Int) a b c l) r) :
    ∀ d i : Nat, i + d = j → ((∃ m : Nat, ∃ h : m < j, i ≤ m ∧ ws[m].f0 = ws[j].f0) → Evt (fun k => spec_CacheOk.l2 k x3 ws j i a b c l) false) ∧
      ((∀ m (h : m < j), i ≤ m → ws[m].f0 ≠ ws[j].f0) → Evt (fun k => spec_CacheOk.l2 k x3 ws j i a b c l) r) := by
  intro d
  induction d with
  | zero =>
    intro i hi
    refine ⟨fun ⟨m, h, h1, _⟩ => absurd h1 (by omega), fun _ => ev_step (fun k => ?_) hn⟩
    simp only [spec_CacheOk.l2]
    rw [if_neg (by omega), w64 (by omega) (by omega)]; rfl
  | succ d ih =>
    intro i hi
    obtain ⟨h1, h2⟩ := ih (i + 1) (by omega)
    by_cases e : ws[i].f0 = ws[j].f0
    · refine ⟨fun _ => ev_end fun k => ?_, fun h => absurd e (h i (by omega) (by omega))⟩
      simp only [spec_CacheOk.l2]
      rw [if_pos (by omega), if_pos (by omega), if_pos (by omega), if_pos (by omega), if_pos (by omega), rdT ws i (by omega), rdT ws j hj, if_pos e]
    · have st : ∀ r', Evt (fun k => spec_CacheOk.l2 k x3 ws j ((i + 1 : Nat) : Int) a b c l) r' → Evt (fun k => spec_CacheOk.l2 k x3 ws j i a b c l) r' := by
        intro r' h
        refine ev_step (fun k => ?_) h
        simp only [spec_CacheOk.l2]
        rw [if_pos (by omega), if_pos (by omega), if_pos (by omega), if_pos (by omega), if_pos (by omega), rdT ws i (by omega), rdT ws j hj, if_neg e, w64 (by omega) (by omega)]
        rfl
      refine ⟨?_, fun h => st _ (h2 fun m hm hi' => h m hm (by omega))⟩
      rintro ⟨m, hm, hi', he⟩
      refine st _ (h1 ⟨m, hm, ?_, he⟩)
      by_cases em : m = i
      · subst em; exact absurd he e
      · omega
theorem ways_same (ws : List S103) (hw : ws.length ≤ 1048576) (x3 x22 : Int) (x21 : List (List S103)) (a b c : Int) (l : List (List S103)) (r : Bool)
    (hs : Evt (fun k => spec_CacheOk.l0 k (wrap64 (x3 + 1)) a b c l) r) (hi : Evt (fun k => impl_isCache.l0 k x21 x22 (wrap64 (x3 + 1)) a b c l) r) :
    ∀ d j : Nat, j + d = ws.length → ∃ q, Evt (fun k => spec_CacheOk.l1 k x3 ws j a b c l) q ∧ Evt (fun k => impl_isCache.l1 k ws x21 x22 x3 ws ws.length j a b c l) q ∧ (q = true → r = true ∧ WaysFrom ws j) := by
  intro d
  induction d with
  | zero =>
    intro j hj
    refine ⟨r, ev_step (fun k => ?_) hs, ev_step (fun k => ?_) hi, fun h => ⟨h, fun i h hji => absurd h (by omega)⟩⟩
    · simp only [spec_CacheOk.l1]; rw [if_neg (by omega)]
    · simp only [impl_isCache.l1]; rw [if_neg (by omega)]
  | succ d ih =>
    intro j hj
    have hlt : j < ws.length := by omega
    obtain ⟨q, q1, q2, q3⟩ := ih (j + 1) (by omega)
    have hR := rdT ws j hlt
    by_cases hb : 0 ≤ ws[j].f0 ∧ ws[j].f0 ≤ 65535
    · have es : ∀ q', Evt (fun k => spec_CacheOk.l2 k x3 ws j ((0 : Nat) : Int) a b c l) q' → Evt (fun k => spec_CacheOk.l1 k x3 ws j a b c l) q' := by
        intro q' h
        refine ev_step (fun k => ?_) h
        simp only [spec_CacheOk.l1, hR, in_eq, Option.bind_some]
        rw [if_pos (by omega), if_pos (by omega), if_pos (by simpa using hb)]; rfl
      obtain ⟨d1, d2⟩ := dup_is ws hw x3 j hlt a b c l q q1 j 0 (by omega)
      by_cases hd : ∃ m : Nat, ∃ h : m < j, ws[m].f0 = ws[j].f0
      · refine ⟨false, es _ (d1 (by obtain ⟨m, h, e⟩ := hd; exact ⟨m, h, by omega, e⟩)), ev_end fun k => ?_, fun h => by cases h⟩
        simp only [impl_isCache.l1, hR, impl_isAddr.f, within_eq, Option.bind_some, impl_wayIndex.f]
        rw [if_pos (by omega), if_pos (by omega), if_pos (by omega), if_pos (by simpa using hb), if_pos ((wix_lt ws j hlt).2 hd)]
      · refine ⟨q, es _ (d2 (fun m h _ e => hd ⟨m, h, e⟩)), ev_step (fun k => ?_) q2, fun h => ?_⟩
        · simp only [impl_isCache.l1, hR, impl_isAddr.f, within_eq, Option.bind_some, impl_wayIndex.f]
          rw [if_pos (by omega), if_pos (by omega), if_pos (by omega), if_pos (by simpa using hb), if_neg (fun h => hd ((wix_lt ws j hlt).1 h)), w64 (by omega) (by omega)]; rfl
        · obtain ⟨h1, h2⟩ := q3 h
          refine ⟨h1, fun i hi' hji => ?_⟩
          by_cases ei : i = j
          · subst ei; exact ⟨hb.1, hb.2, fun m hm e => hd ⟨m, hm, e⟩⟩
          · exact h2 i hi' (by omega)
    · refine ⟨false, ev_end fun k => ?_, ev_end fun k => ?_, fun h => by cases h⟩
      · simp only [spec_CacheOk.l1, hR, in_eq, Option.bind_some]
        rw [if_pos (by omega), if_pos (by omega), if_neg (by simpa using hb)]
      · simp only [impl_isCache.l1, hR, impl_isAddr.f, within_eq, Option.bind_some]
        rw [if_pos (by omega), if_pos (by omega), if_pos (by omega), if_neg (by simpa using hb)]
theorem rows_same (a b c : Int) (l : List (List S103)) (hl : l.length ≤ 1048576) (hm : ∀ x ∈ l, x.length ≤ 1048576) : ∀ d i : Nat, i + d = l.length →
    ∃ q, Evt (fun k => spec_CacheOk.l0 k i a b c l) q ∧ Evt (fun k => impl_isCache.l0 k l l.length i a b c l) q ∧ (q = true → ∀ j (h : j < l.length), i ≤ j → (l[j].length : Int) ≤ b ∧ WaysFrom l[j] 0) := by
  intro d
  induction d with
  | zero =>
    intro i hi
    refine ⟨true, ev_end fun k => ?_, ev_end fun k => ?_, fun _ j h hj => absurd h (by omega)⟩
    · simp only [spec_CacheOk.l0]; rw [if_neg (by omega)]
    · simp only [impl_isCache.l0]; rw [if_neg (by omega)]
  | succ d ih =>
    intro i hi
    have hlt : i < l.length := by omega
    obtain ⟨r, r1, r2, r3⟩ := ih (i + 1) (by omega)
    have hrow : rd_L3 l i = l[i] := by unfold rd_L3; simp [hlt]
    have hwr : wrap64 ((i : Int) + 1) = ((i + 1 : Nat) : Int) := by rw [w64 (by omega) (by omega)]; rfl
    by_cases hb : (l[i].length : Int) > b
    · refine ⟨false, ev_end fun k => ?_, ev_end fun k => ?_, fun h => by cases h⟩
      · simp only [spec_CacheOk.l0, hrow]; rw [if_pos (by omega), if_pos (by omega), if_pos hb]
      · simp only [impl_isCache.l0, hrow]; rw [if_pos (by omega), if_pos (by omega), if_pos (by omega), if_pos hb]
    · obtain ⟨q, q1, q2, q3⟩ := ways_same l[i] (hm _ (List.getElem_mem _)) i l.length l a b c l r (by rw [hwr]; exact r1) (by rw [hwr]; exact r2) l[i].length 0 (by omega)
      refine ⟨q, ev_step (fun k => ?_) q1, ev_step (fun k => ?_) q2, fun h => ?_⟩
      · simp only [spec_CacheOk.l0, hrow]; rw [if_pos (by omega), if_pos (by omega), if_neg hb]; rfl
      · simp only [impl_isCache.l0, hrow]; rw [if_pos (by omega), if_pos (by omega), if_pos (by omega), if_neg hb]; rfl
      · obtain ⟨h1, h2⟩ := q3 h
        intro j hj hij
        by_cases ej : j = i
        · subst ej; exact ⟨by omega, h2⟩
        · exact r3 h1 j hj (by omega)
/-- What CacheOk asks. -/
def GoodC (a b c : Int) (l : List (List S103)) : Prop := IsShape a b c ∧ (l.length : Int) = a ∧ ∀ j (h : j < l.length), (l[j].length : Int) ≤ b ∧ WaysFrom l[j] 0
theorem ok_same (a b c : Int) (l : List (List S103)) (hl : l.length ≤ 1048576) (hm : ∀ x ∈ l, x.length ≤ 1048576) :
    ∃ q, Evt (fun k => spec_CacheOk.f k a b c l) q ∧ Evt (fun k => impl_isCache.f k a b c l) q ∧ (q = true → GoodC a b c l) := by
  unfold spec_CacheOk.f impl_isCache.f
  simp only [spec_shape, impl_shape, Option.bind_some]
  by_cases hs : IsShape a b c
  · simp only [if_pos (decide_eq_true hs)]
    by_cases hn : (l.length : Int) = a
    · obtain ⟨q, q1, q2, q3⟩ := rows_same a b c l hl hm l.length 0 (by omega)
      have e : ((l.length : Int) != a) = false := by simp [hn]
      refine ⟨q, ev_step (fun k => ?_) q1, ev_step (fun k => ?_) q2, fun h => ⟨hs, hn, fun j hj => q3 h j hj (by omega)⟩⟩
      · simp only [spec_CacheOk.j0]; rw [if_neg (by simp [e])]; rfl
      · simp only [impl_isCache.j0]; rw [if_neg (by simp [e])]; rfl
    · have e : ((l.length : Int) != a) = true := by simp [hn]
      refine ⟨false, ev_end fun k => ?_, ev_end fun k => ?_, fun h => by cases h⟩
      · simp only [spec_CacheOk.j0]; rw [if_pos e]
      · simp only [impl_isCache.j0]; rw [if_pos e]
  · simp only [if_neg (show ¬ decide (IsShape a b c) = true by simpa using hs)]
    refine ⟨false, ev_end fun k => ?_, ev_end fun k => ?_, fun h => by cases h⟩
    · simp only [spec_CacheOk.j0]; rw [if_pos trivial]
    · simp only [impl_isCache.j0]; rw [if_pos trivial]

end Go.Proofs.Ytboginbepgopeaa.PFnExactCacheLines

/- impl.CacheEmpty returns what the reference's CacheEmpty returns, for every Shape. No condition. -/
import Derived.Test.YtboginbepgopeaaEmptyLawFnExactCacheEmpty
import Derived.Test.YtboginbepgopeaaShapeFnExactCacheEmpty
set_option linter.unusedVariables false
set_option linter.unusedSimpArgs false
namespace Go.Proofs.Ytboginbepgopeaa.Pure
open Go.RowKit Go.Proofs.Ytboginbepgopeaa.PFnExactCacheEmpty Go.Proofs.YtboginbepgopeaaW.PrintWords Go.Proofs.YtboginbepgopeaaW.PrintLast Go.Proofs.Ytboginbepgopeaa.Lem

/-- From some number of rounds on, f gives r. -/
def Evt {α : Type} (f : Nat → Option α) (r : α) : Prop := ∃ K, ∀ k, K ≤ k → f k = some r
theorem ev_of {α : Type} {f : Nat → Option α} {r : α} (h : ∀ k, f k = some r) : Evt f r := ⟨0, fun k _ => h k⟩
theorem ev_step {α : Type} {f g : Nat → Option α} {r : α} (h : ∀ k, f (k + 1) = g k) (hg : Evt g r) : Evt f r := by
  obtain ⟨K, hK⟩ := hg
  refine ⟨K + 1, fun k hk => ?_⟩
  obtain ⟨k, rfl⟩ : ∃ m, k = m + 1 := ⟨k - 1, by omega⟩
  rw [h, hK k (by omega)]
theorem ev_end {α : Type} {f : Nat → Option α} {r : α} (h : ∀ k, f (k + 1) = some r) : Evt f r := ev_step (g := fun _ => some r) h (ev_of fun _ => rfl)
theorem ev_bind {α β : Type} {g : Nat → Option α} {h : Nat → α → Option β} {t : α} {r : β} (hg : Evt g t) (hh : Evt (fun k => h k t) r) : Evt (fun k => (g k).bind (h k)) r := by
  obtain ⟨K, hK⟩ := hg
  obtain ⟨M, hM⟩ := hh
  refine ⟨K + M, fun k hk => ?_⟩
  simp only [hK k (by omega), Option.bind_some]
  exact hM k (by omega)
theorem ev_both {α β : Type} {f : Nat → Option α} {g : Nat → Option β} {r : α} {s : β} (hf : Evt f r) (hg : Evt g s) : Evt (fun k => (f k).bind fun a => (g k).bind fun b => some (a, b)) (r, s) :=
  ev_bind hf (ev_bind hg (ev_of fun _ => rfl))
/-- A scan that ends at n. -/
theorem ev_scan {α : Type} (g : Nat → Int → Option α) (r : α) (n : Nat) (hs : ∀ i : Nat, i < n → Evt (fun k => g k ((i + 1 : Nat) : Int)) r → Evt (fun k => g k i) r) (he : Evt (fun k => g k n) r) :
    Evt (fun k => g k 0) r := by
  have key : ∀ d i : Nat, i + d = n → Evt (fun k => g k i) r := by
    intro d
    induction d with
    | zero => intro i hi; obtain rfl : i = n := by omega
              exact he
    | succ d ih => intro i hi; exact hs i (by omega) (ih (i + 1) (by omega))
  simpa using key n 0 (by omega)
/-- A list that is turned, one by one, into a new one. -/
theorem ev_copy {α β : Type} (z : β) (cv : α → β) (l : List α) (g : Nat → List β → Int → Option (List β))
    (hs : ∀ (x : List β) (i : Nat) (h : i < l.length) (r : List β), x.length = l.length → Evt (fun k => g k (x.set i (cv l[i])) ((i + 1 : Nat) : Int)) r → Evt (fun k => g k x i) r)
    (he : ∀ x : List β, x.length = l.length → Evt (fun k => g k x l.length) x) : Evt (fun k => g k (List.replicate l.length z) 0) (l.map cv) := by
  have key : ∀ d i : Nat, i + d = l.length → Evt (fun k => g k ((l.map cv).take i ++ List.replicate d z) i) (l.map cv) := by
    intro d
    induction d with
    | zero =>
      intro i hi
      obtain rfl : i = l.length := by omega
      have := he ((l.map cv).take l.length ++ List.replicate 0 z) (by simp)
      have e : (l.map cv).take l.length ++ List.replicate 0 z = l.map cv := by
        rw [List.take_of_length_le (by simp)]; simp
      rw [e] at this ⊢; exact this
    | succ d ih =>
      intro i hi
      have hlt : i < l.length := by omega
      refine hs _ i hlt _ (by simp; omega) ?_
      have e : ((l.map cv).take i ++ List.replicate (d + 1) z).set i (cv l[i]) = (l.map cv).take (i + 1) ++ List.replicate d z := by
        rw [List.set_append_right _ _ (by simp; omega)]
        have : i - ((l.map cv).take i).length = 0 := by simp; omega
        rw [this, List.replicate_succ, List.set_cons_zero, List.take_succ_eq_append_getElem (by simpa using hlt), List.append_assoc]
        simp
      rw [e]
      exact ih (i + 1) (by omega)
  have := key l.length 0 (by omega)
  simpa using this
theorem eqS_is (l : List S103) (hl : l.length ≤ 1048576) : Evt (fun k => laws_eqWayS.f k l l) true := by
  unfold laws_eqWayS.f
  simp only [if_true]
  refine ev_scan (fun k i => laws_eqWayS.l0 k l l i) true l.length ?_ ?_
  · intro i h hr
    refine ev_step (fun k => ?_) hr
    simp only [laws_eqWayS.l0, laws_eqWay.f]
    rw [if_pos (by omega), if_pos (by omega), if_pos (by omega), w64 (by omega) (by omega)]
    simp
  · refine ev_end fun k => ?_
    simp only [laws_eqWayS.l0]; rw [if_neg (by omega)]
theorem eqSS_is (l : List (List S103)) (hl : l.length ≤ 1048576) (hm : ∀ x ∈ l, x.length ≤ 1048576) : Evt (fun k => laws_eqWaySS.f k l l) true := by
  unfold laws_eqWaySS.f
  simp only [if_true]
  refine ev_scan (fun k i => laws_eqWaySS.l0 k l l i) true l.length ?_ ?_
  · intro i h hr
    have hrow : rd_L3 l i = l[i] := by unfold rd_L3; simp [h]
    refine ev_step (g := fun k => (laws_eqWayS.f k l[i] l[i]).bind fun t => if t = true then laws_eqWaySS.l0 k l l ((i + 1 : Nat) : Int) else some false) (fun k => ?_)
      (ev_bind (eqS_is l[i] (hm _ (List.getElem_mem _))) (by simpa using hr))
    simp only [laws_eqWaySS.l0, hrow]
    rw [if_pos (by omega), if_pos (by omega), if_pos (by omega), w64 (by omega) (by omega)]
    rfl
  · refine ev_end fun k => ?_
    simp only [laws_eqWaySS.l0]; rw [if_neg (by omega)]
theorem eqCache_is (a b c : Int) (l : List (List S103)) (hl : l.length ≤ 1048576) (hm : ∀ x ∈ l, x.length ≤ 1048576) : Evt (fun k => laws_eqCache.f k a b c l a b c l) true := by
  unfold laws_eqCache.f laws_eqShape.f
  simp only [if_true, Option.bind_some]
  exact ev_bind (eqSS_is l hl hm) (ev_of fun _ => rfl)
theorem mark_row (x : Int) : Evt (fun k => laws_markWayS.f k [] x) (x, []) := by
  unfold laws_markWayS.f
  exact ev_end fun k => by simp [laws_markWayS.l0]
theorem held_row (x : Int) : Evt (fun k => laws_heldWayS.f k [] x) x := by
  unfold laws_heldWayS.f
  exact ev_end fun k => by simp [laws_heldWayS.l0]
theorem set_nil (l : List (List S103)) (hl : ∀ y ∈ l, y = []) (i : Nat) : l.set i [] = l := by
  apply List.ext_getElem (by simp)
  intro j h1 h2
  rw [List.getElem_set]
  by_cases e : i = j
  · rw [if_pos e, hl _ (List.getElem_mem h2)]
  · rw [if_neg e]
theorem mark_all (l : List (List S103)) (hl : ∀ y ∈ l, y = []) (hn : l.length ≤ 1048576) (x : Int) : Evt (fun k => laws_markWaySS.f k l x) (x, l) := by
  unfold laws_markWaySS.f
  refine ev_scan (fun k i => laws_markWaySS.l0 k l x i) (x, l) l.length ?_ ?_
  · intro i h hr
    have hrow : rd_L3 l i = [] := by unfold rd_L3; simp [h, hl _ (List.getElem_mem h)]
    refine ev_step (g := fun k => (laws_markWayS.f k [] x).bind fun t => laws_markWaySS.l0 k (l.set i t.2) t.1 ((i + 1 : Nat) : Int)) (fun k => ?_) (ev_bind (mark_row x) (by simpa [set_nil l hl i] using hr))
    simp only [laws_markWaySS.l0, hrow, Int.toNat_natCast]
    rw [if_pos (by omega), if_pos (by omega), w64 (by omega) (by omega)]
    rfl
  · refine ev_end fun k => ?_
    simp only [laws_markWaySS.l0]; rw [if_neg (by omega)]
theorem held_all (l : List (List S103)) (hl : ∀ y ∈ l, y = []) (hn : l.length ≤ 1048576) : Evt (fun k => laws_heldWaySS.f k l 1) 1 := by
  unfold laws_heldWaySS.f
  refine ev_scan (fun k i => laws_heldWaySS.l0 k l 1 i) 1 l.length ?_ ?_
  · intro i h hr
    have hrow : rd_L3 l i = [] := by unfold rd_L3; simp [h, hl _ (List.getElem_mem h)]
    refine ev_step (g := fun k => (laws_heldWayS.f k [] 1).bind fun t => if t < 0 then some (-1) else laws_heldWaySS.l0 k l t ((i + 1 : Nat) : Int)) (fun k => ?_) (ev_bind (held_row 1) (by simpa using hr))
    simp only [laws_heldWaySS.l0, hrow]
    rw [if_pos (by omega), if_pos (by omega), w64 (by omega) (by omega)]
    rfl
  · refine ev_end fun k => ?_
    simp only [laws_heldWaySS.l0]; rw [if_neg (by omega)]
theorem empty_loop (a b c x y z : Int) (n : Nat) (ha : a = n) (hn : n ≤ 16) : ∀ d i : Nat, i + d = n → Evt (fun k => spec_CacheEmpty.l0 k i a b c x y z (List.replicate i [])) (x, y, z, List.replicate n []) := by
  intro d
  induction d with
  | zero =>
    intro i hi
    obtain rfl : i = n := by omega
    refine ev_end fun k => ?_
    simp only [spec_CacheEmpty.l0]; rw [if_neg (by omega)]
  | succ d ih =>
    intro i hi
    refine ev_step (fun k => ?_) (ih (i + 1) (by omega))
    simp only [spec_CacheEmpty.l0]
    rw [if_pos (by omega), if_pos (by simp; omega), w64 (by omega) (by omega), List.replicate_succ']
    rfl
theorem FnExactCacheEmpty : ∀ (a b c : Int), (Lit.int .i64 a).wf = true → (Lit.int .i64 b).wf = true → (Lit.int .i64 c).wf = true → ∃ k, Hyp k a b c true := by
  intro a b c _ _ _
  have key : ∃ (x y z : Int) (n : Nat), n ≤ 16 ∧ Evt (fun k => spec_CacheEmpty.f k a b c) (x, y, z, List.replicate n []) ∧ impl_CacheEmpty.f a b c = some (x, y, z, List.replicate n []) := by
    unfold spec_CacheEmpty.f impl_CacheEmpty.f
    simp only [spec_shape, impl_shape, Option.bind_some]
    by_cases hs : IsShape a b c
    · simp only [if_pos (decide_eq_true hs)]
      have hs' := hs
      obtain ⟨ha, _⟩ := hs'
      obtain ⟨n, hn⟩ := Int.eq_ofNat_of_zero_le (show 0 ≤ a by omega)
      refine ⟨a, b, c, n, by omega, ?_, ?_⟩
      · have := empty_loop a b c a b c n hn (by omega) n 0 (by omega)
        simpa using this
      · unfold impl_newCache.f
        rw [if_pos (by omega), if_pos (by omega)]
        simp [hn]
    · simp only [if_neg (show ¬ decide (IsShape a b c) = true by simpa using hs)]
      exact ⟨0, 0, 0, 0, by omega, ev_of fun _ => rfl, rfl⟩
  obtain ⟨x, y, z, n, hn, h1, h2⟩ := key
  have hnil : ∀ q ∈ List.replicate n ([] : List S103), q = [] := fun q hq => (List.mem_replicate.1 hq).2
  have hlen : (List.replicate n ([] : List S103)).length ≤ 1048576 := by simp; omega
  have heq := eqCache_is x y z (List.replicate n []) hlen (fun q hq => by rw [hnil q hq]; simp)
  have hmark := mark_all (List.replicate n []) hnil hlen 1
  have hheld : Evt (fun k => laws_heldCache.f k x y z (List.replicate n []) 1) 1 := by
    unfold laws_heldCache.f
    exact ev_bind (held_all _ hnil hlen) (ev_of fun _ => by simp)
  obtain ⟨K1, k1⟩ := h1
  obtain ⟨K2, k2⟩ := heq
  obtain ⟨K3, k3⟩ := hmark
  obtain ⟨K4, k4⟩ := hheld
  exact ⟨K1 + K2 + K3 + K4, rfl, x, y, z, 1, List.replicate n [], List.replicate n [], k1 _ (by omega), h2, k2 _ (by omega), k3 _ (by omega), k4 _ (by omega), by omega⟩

end Go.Proofs.Ytboginbepgopeaa.Pure

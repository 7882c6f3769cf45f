/- impl.CacheFlush returns what the reference's CacheFlush returns, for every Cache (of more than 2^20 sets and ways the statement asks nothing). No condition. -/
import Derived.Test.YtboginbepgopeaaCacheFnExactCacheFlush
import Derived.Test.YtboginbepgopeaaFlushLawFnExactCacheFlush
set_option linter.unusedVariables false
set_option linter.unusedSimpArgs false
namespace Go.Proofs.Ytboginbepgopeaa.Pure
open Go.RowKit Go.Proofs.Ytboginbepgopeaa.PFnExactCacheFlush Go.Proofs.YtboginbepgopeaaW.PrintWords Go.Proofs.YtboginbepgopeaaW.PrintLast Go.Proofs.Ytboginbepgopeaa.Lem

theorem mark_row_at (n : Nat) (hn : n ≤ 1048576) : ∀ d i : Nat, i + d = n → ∀ (l : List S103) (x : Int), l.length = n → 0 ≤ x → x + 2 * (d : Int) ≤ 4611686018427387904 →
    ∃ l' : List S103, l'.length = n ∧ Evt (fun k => laws_markWayS.l0 k l x i) (x + 2 * d, l') := by
  intro d
  induction d with
  | zero =>
    intro i hi l x hl h0 h1
    refine ⟨l, hl, ev_end fun k => ?_⟩
    simp only [laws_markWayS.l0]; rw [if_neg (by omega)]; simp
  | succ d ih =>
    intro i hi l x hl h0 h1
    obtain ⟨l', h1', h2'⟩ := ih (i + 1) (by omega) ((l.set i (⟨x, (rd_T103 l i).f1⟩ : S103)).set i (⟨(rd_T103 (l.set i (⟨x, (rd_T103 l i).f1⟩ : S103)) i).f0, ((Int.tmod (wrap64 (x + 1)) 3) == 0)⟩ : S103)) (x + 2) (by simpa using hl) (by omega) (by omega)
    refine ⟨l', h1', ev_step (fun k => ?_) (by have e : x + 2 * ((d + 1 : Nat) : Int) = x + 2 + 2 * (d : Int) := by omega
                                               rw [e]; exact h2')⟩
    simp only [laws_markWayS.l0, Option.bind_some, Int.toNat_natCast]
    rw [if_pos (by omega), if_pos (by omega), w64 (n := x + 1) (by omega) (by omega), w64 (n := x + 1 + 1) (by omega) (by omega), w64 (n := (i : Int) + 1) (by omega) (by omega)]
    have e2 : x + 1 + 1 = x + 2 := by omega
    rw [e2]; rfl
theorem mark_rows (n : Nat) (hn : n ≤ 1048576) : ∀ d i : Nat, i + d = n → ∀ (l : List (List S103)) (x : Int), l.length = n → (∀ y ∈ l, y.length ≤ 1048576) → 0 ≤ x → x ≤ 1 + 2097152 * (i : Int) →
    ∃ (m : Int) (l' : List (List S103)), 0 ≤ m ∧ Evt (fun k => laws_markWaySS.l0 k l x i) (m, l') := by
  intro d
  induction d with
  | zero =>
    intro i hi l x hl hm h0 h1
    refine ⟨x, l, h0, ev_end fun k => ?_⟩
    simp only [laws_markWaySS.l0]; rw [if_neg (by omega)]
  | succ d ih =>
    intro i hi l x hl hm h0 h1
    have hlt : i < l.length := by omega
    have hrow : rd_L3 l i = l[i] := by unfold rd_L3; simp [hlt]
    have hr := hm _ (List.getElem_mem hlt)
    obtain ⟨r', hr1, hr2⟩ := mark_row_at l[i].length hr l[i].length 0 (by omega) l[i] x rfl h0 (by omega)
    obtain ⟨m, l', g1, g2⟩ := ih (i + 1) (by omega) (l.set i r') (x + 2 * (l[i].length : Int)) (by simpa using hl) (fun y hy => by
      rcases List.mem_or_eq_of_mem_set hy with h | rfl
      · exact hm y h
      · omega) (by omega) (by push_cast; omega)
    refine ⟨m, l', g1, ev_step (g := fun k => (laws_markWayS.f k l[i] x).bind fun t => laws_markWaySS.l0 k (l.set i t.2) t.1 ((i + 1 : Nat) : Int)) (fun k => ?_) (ev_bind (t := (x + 2 * (l[i].length : Int), r')) hr2 g2)⟩
    simp only [laws_markWaySS.l0, hrow, Int.toNat_natCast]
    rw [if_pos (by omega), if_pos (by omega), w64 (by omega) (by omega)]
    rfl
theorem dirty_ways (l : List (List S103)) (i : Nat) (hi : i < l.length) (hl : l.length ≤ 1048576) (hw : l[i].length ≤ 1048576) (a b c e1 e2 e3 : Int) (e4 : List (List S103))
    (hs : ∀ x : Int, ∃ n : Int, Evt (fun k => spec_CacheFlush.l0 k x ((i + 1 : Nat) : Int) a b c l) (e1, e2, e3, e4, n) ∧ Evt (fun k => impl_Cache_dirty.l0 k x l l.length ((i + 1 : Nat) : Int)) n) :
    ∀ d j : Nat, j + d = l[i].length → ∀ x : Int, ∃ n : Int, Evt (fun k => spec_CacheFlush.l1 k x i j a b c l) (e1, e2, e3, e4, n) ∧ Evt (fun k => impl_Cache_dirty.l1 k x l l.length i l[i] l[i].length j) n := by
  have hrow : rd_L3 l i = l[i] := by unfold rd_L3; simp [hi]
  intro d
  induction d with
  | zero =>
    intro j hj x
    obtain ⟨n, h1, h2⟩ := hs x
    refine ⟨n, ev_step (fun k => ?_) h1, ev_step (fun k => ?_) h2⟩
    · simp only [spec_CacheFlush.l1, hrow]; rw [if_pos (by omega), if_pos (by omega), if_neg (by omega), w64 (by omega) (by omega)]; rfl
    · simp only [impl_Cache_dirty.l1]; rw [if_neg (by omega), w64 (by omega) (by omega)]; rfl
  | succ d ih =>
    intro j hj x
    have hR := rdT l[i] j (by omega)
    by_cases hd : (l[i][j]'(by omega)).f1 = true
    · obtain ⟨n, h1, h2⟩ := ih (j + 1) (by omega) (wrap64 (x + 1))
      refine ⟨n, ev_step (fun k => ?_) h1, ev_step (fun k => ?_) h2⟩
      · simp only [spec_CacheFlush.l1, hrow, hR]; rw [if_pos (by omega), if_pos (by omega), if_pos (by omega), if_pos (by omega), if_pos hd, w64 (n := (j : Int) + 1) (by omega) (by omega)]; rfl
      · simp only [impl_Cache_dirty.l1, hR]; rw [if_pos (by omega), if_pos (by omega), if_pos (by omega), if_pos hd, w64 (n := (j : Int) + 1) (by omega) (by omega)]; rfl
    · obtain ⟨n, h1, h2⟩ := ih (j + 1) (by omega) x
      refine ⟨n, ev_step (fun k => ?_) h1, ev_step (fun k => ?_) h2⟩
      · simp only [spec_CacheFlush.l1, hrow, hR]; rw [if_pos (by omega), if_pos (by omega), if_pos (by omega), if_pos (by omega), if_neg hd, w64 (n := (j : Int) + 1) (by omega) (by omega)]; rfl
      · simp only [impl_Cache_dirty.l1, hR]; rw [if_pos (by omega), if_pos (by omega), if_pos (by omega), if_neg hd, w64 (n := (j : Int) + 1) (by omega) (by omega)]; rfl
theorem dirty_rows (l : List (List S103)) (hl : l.length ≤ 1048576) (hm : ∀ y ∈ l, y.length ≤ 1048576) (a b c e1 e2 e3 : Int) (e4 : List (List S103)) (he : Evt (fun k => spec_CacheEmpty.f k a b c) (e1, e2, e3, e4)) :
    ∀ d i : Nat, i + d = l.length → ∀ x : Int, ∃ n : Int, Evt (fun k => spec_CacheFlush.l0 k x i a b c l) (e1, e2, e3, e4, n) ∧ Evt (fun k => impl_Cache_dirty.l0 k x l l.length i) n := by
  intro d
  induction d with
  | zero =>
    intro i hi x
    refine ⟨x, ev_step (g := fun k => (spec_CacheEmpty.f k a b c).bind fun t => some (t.1, t.2.1, t.2.2.1, t.2.2.2, x)) (fun k => ?_) (ev_bind he (ev_of fun _ => rfl)), ev_end fun k => ?_⟩
    · simp only [spec_CacheFlush.l0]; rw [if_neg (by omega)]
    · simp only [impl_Cache_dirty.l0]; rw [if_neg (by omega)]
  | succ d ih =>
    intro i hi x
    have hlt : i < l.length := by omega
    have hrow : rd_L3 l i = l[i] := by unfold rd_L3; simp [hlt]
    obtain ⟨n, h1, h2⟩ := dirty_ways l i hlt hl (hm _ (List.getElem_mem hlt)) a b c e1 e2 e3 e4 (fun x => ih (i + 1) (by omega) x) l[i].length 0 (by omega) x
    refine ⟨n, ev_step (fun k => ?_) h1, ev_step (fun k => ?_) h2⟩
    · simp only [spec_CacheFlush.l0]; rw [if_pos (by omega)]; rfl
    · simp only [impl_Cache_dirty.l0, hrow]; rw [if_pos (by omega), if_pos (by omega), if_pos (by omega)]; rfl
theorem mark_row (x : Int) : Evt (fun k => laws_markWayS.f k [] x) (x, []) := by
  unfold laws_markWayS.f
  exact ev_end fun k => by simp [laws_markWayS.l0]
theorem held_row (x : Int) : Evt (fun k => laws_heldWayS.f k [] x) x := by
  unfold laws_heldWayS.f
  exact ev_end fun k => by simp [laws_heldWayS.l0]
theorem set_nil (l : List (List S103)) (hl : ∀ y ∈ l, y = []) (i : Nat) : l.set i [] = l := by
  apply List.ext_getElem (by simp)
  intro j h1 h2
  rw [List.getElem_set]
  by_cases e : i = j
  · rw [if_pos e, hl _ (List.getElem_mem h2)]
  · rw [if_neg e]
theorem mark_all (l : List (List S103)) (hl : ∀ y ∈ l, y = []) (hn : l.length ≤ 1048576) (x : Int) : Evt (fun k => laws_markWaySS.f k l x) (x, l) := by
  unfold laws_markWaySS.f
  refine ev_scan (fun k i => laws_markWaySS.l0 k l x i) (x, l) l.length ?_ ?_
  · intro i h hr
    have hrow : rd_L3 l i = [] := by unfold rd_L3; simp [h, hl _ (List.getElem_mem h)]
    refine ev_step (g := fun k => (laws_markWayS.f k [] x).bind fun t => laws_markWaySS.l0 k (l.set i t.2) t.1 ((i + 1 : Nat) : Int)) (fun k => ?_) (ev_bind (mark_row x) (by simpa [set_nil l hl i] using hr))
    simp only [laws_markWaySS.l0, hrow, Int.toNat_natCast]
    rw [if_pos (by omega), if_pos (by omega), w64 (by omega) (by omega)]
    rfl
  · refine ev_end fun k => ?_
    simp only [laws_markWaySS.l0]; rw [if_neg (by omega)]
theorem held_all (l : List (List S103)) (hl : ∀ y ∈ l, y = []) (hn : l.length ≤ 1048576) : Evt (fun k => laws_heldWaySS.f k l 1) 1 := by
  unfold laws_heldWaySS.f
  refine ev_scan (fun k i => laws_heldWaySS.l0 k l 1 i) 1 l.length ?_ ?_
  · intro i h hr
    have hrow : rd_L3 l i = [] := by unfold rd_L3; simp [h, hl _ (List.getElem_mem h)]
    refine ev_step (g := fun k => (laws_heldWayS.f k [] 1).bind fun t => if t < 0 then some (-1) else laws_heldWaySS.l0 k l t ((i + 1 : Nat) : Int)) (fun k => ?_) (ev_bind (held_row 1) (by simpa using hr))
    simp only [laws_heldWaySS.l0, hrow]
    rw [if_pos (by omega), if_pos (by omega), w64 (by omega) (by omega)]
    rfl
  · refine ev_end fun k => ?_
    simp only [laws_heldWaySS.l0]; rw [if_neg (by omega)]
theorem empty_loop (a b c x y z : Int) (n : Nat) (ha : a = n) (hn : n ≤ 16) : ∀ d i : Nat, i + d = n → Evt (fun k => spec_CacheEmpty.l0 k i a b c x y z (List.replicate i [])) (x, y, z, List.replicate n []) := by
  intro d
  induction d with
  | zero =>
    intro i hi
    obtain rfl : i = n := by omega
    refine ev_end fun k => ?_
    simp only [spec_CacheEmpty.l0]; rw [if_neg (by omega)]
  | succ d ih =>
    intro i hi
    refine ev_step (fun k => ?_) (ih (i + 1) (by omega))
    simp only [spec_CacheEmpty.l0]
    rw [if_pos (by omega), if_pos (by simp; omega), w64 (by omega) (by omega), List.replicate_succ']
    rfl
theorem flush_both (a b c : Int) (l : List (List S103)) (hl : l.length ≤ 1048576) (hm : ∀ y ∈ l, y.length ≤ 1048576) :
    ∃ (x y z : Int) (n : Nat) (m : Int), n ≤ 16 ∧ Evt (fun k => spec_CacheFlush.f k a b c l) (x, y, z, List.replicate n [], m) ∧ Evt (fun k => impl_CacheFlush.f k a b c l) (x, y, z, List.replicate n [], m) := by
  obtain ⟨q, q1, q2, q3⟩ := ok_same a b c l hl hm
  unfold spec_CacheFlush.f impl_CacheFlush.f
  cases q with
  | false =>
    refine ⟨0, 0, 0, 0, 0, by omega, ev_bind q1 ?_, ev_bind q2 ?_⟩
    · simp only [Bool.false_eq_true, if_false]; exact ev_of fun _ => rfl
    · simp only [Bool.false_eq_true, if_false]; exact ev_of fun _ => rfl
  | true =>
    obtain ⟨hs, _, _⟩ := q3 rfl
    have hs' := hs
    obtain ⟨ha, _⟩ := hs'
    obtain ⟨n, hn⟩ := Int.eq_ofNat_of_zero_le (show 0 ≤ a by omega)
    have he : Evt (fun k => spec_CacheEmpty.f k a b c) (a, b, c, List.replicate n []) := by
      unfold spec_CacheEmpty.f
      simp only [spec_shape, Option.bind_some, if_pos (decide_eq_true hs)]
      have := empty_loop a b c a b c n hn (by omega) n 0 (by omega)
      simpa using this
    obtain ⟨m, h1, h2⟩ := dirty_rows l hl hm a b c a b c (List.replicate n []) he l.length 0 (by omega) 0
    refine ⟨a, b, c, n, m, by omega, ev_bind q1 ?_, ev_bind q2 ?_⟩
    · simp only [if_true]; exact h1
    · simp only [if_true]
      refine ev_bind (t := (a, b, c, List.replicate n [])) (ev_of fun _ => ?_) ?_
      · unfold impl_newCache.f
        rw [if_pos (by omega), if_pos (by omega)]
        simp [hn]
      · refine ev_bind (t := m) ?_ (ev_of fun _ => rfl)
        unfold impl_Cache_dirty.f
        exact h2
theorem FnExactCacheFlush : ∀ (a b c : Int) (l : List (List S133)), (Lit.int .i64 a).wf = true → (Lit.int .i64 b).wf = true → (Lit.int .i64 c).wf = true → l.length ≤ maxLen → (∀ x ∈ l, x.length ≤ maxLen) → ∃ k, Hyp k a b c l true := by
  intro a b c l _ _ _ hl hm
  obtain ⟨s, hs, hz⟩ := size_is a b c l (by unfold maxLen at hl; omega) (fun x hx => by have := hm x hx; unfold maxLen at this; omega)
  by_cases h0 : s < 0
  · obtain ⟨K, hK⟩ := hs
    exact ⟨K, rfl, s, hK K (Nat.le_refl K), .inl h0⟩
  · obtain ⟨hl', hm'⟩ := hz.resolve_left h0
    have hl2 : (l.map (·.map cv)).length ≤ 1048576 := by simpa using hl'
    have hm2 : ∀ x ∈ l.map (·.map cv), x.length ≤ 1048576 := by
      intro x hx
      obtain ⟨y, hy, rfl⟩ := List.mem_map.1 hx
      simpa using hm' y hy
    obtain ⟨x, y, z, n, m, hn, f1, f2⟩ := flush_both a b c _ hl2 hm2
    have hnil : ∀ q ∈ List.replicate n ([] : List S103), q = [] := fun q hq => (List.mem_replicate.1 hq).2
    have hlen : (List.replicate n ([] : List S103)).length ≤ 1048576 := by simp; omega
    have heq := eqCache_is x y z (List.replicate n []) hlen (fun q hq => by rw [hnil q hq]; simp)
    have heqx := eqCache_is a b c _ hl2 hm2
    obtain ⟨mx, Lx, hmx, hmk⟩ := mark_rows _ hl2 (l.map (·.map cv)).length 0 (by omega) (l.map (·.map cv)) 1 rfl hm2 (by omega) (by omega)
    have hmark := mark_all (List.replicate n []) hnil hlen 1
    have hheld : Evt (fun k => laws_heldCache.f k x y z (List.replicate n []) 1) 1 := by
      unfold laws_heldCache.f
      exact ev_bind (held_all _ hnil hlen) (ev_of fun _ => by simp)
    obtain ⟨K0, k0⟩ := hs
    obtain ⟨K1, k1⟩ := toCache_is a b c l hl' hm'
    obtain ⟨K2, k2⟩ := f1
    obtain ⟨K3, k3⟩ := f2
    obtain ⟨K4, k4⟩ := heq
    obtain ⟨K5, k5⟩ := heqx
    obtain ⟨K6, k6⟩ := hmk
    obtain ⟨K7, k7⟩ := hmark
    obtain ⟨K8, k8⟩ := hheld
    refine ⟨K0 + K1 + K2 + K3 + K4 + K5 + K6 + K7 + K8, rfl, s, k0 _ (by omega), .inr ⟨x, y, z, m, 1, mx, l.map (·.map cv), Lx, List.replicate n [], List.replicate n [], k1 _ (by omega), k2 _ (by omega), k3 _ (by omega), k4 _ (by omega), k5 _ (by omega), ?_, by omega, k7 _ (by omega), k8 _ (by omega), by omega⟩⟩
    have := k6 _ (show K6 ≤ K0 + K1 + K2 + K3 + K4 + K5 + K6 + K7 + K8 by omega)
    unfold laws_markWaySS.f
    exact this

end Go.Proofs.Ytboginbepgopeaa.Pure

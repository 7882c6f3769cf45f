/- impl.CacheLines returns what the reference's CacheLines returns, for every Cache (of more than 2^20 sets and ways the statement asks nothing), in memory of its own. No condition. -/
import Derived.Test.YtboginbepgopeaaLinesFnExactCacheLines
import Derived.Test.YtboginbepgopeaaLinesLawFnExactCacheLines
set_option linter.unusedVariables false
set_option linter.unusedSimpArgs false
namespace Go.Proofs.Ytboginbepgopeaa.Pure
open Go.RowKit Go.Proofs.Ytboginbepgopeaa.PFnExactCacheLines Go.Proofs.YtboginbepgopeaaW.PrintWords Go.Proofs.YtboginbepgopeaaW.PrintLast Go.Proofs.Ytboginbepgopeaa.Lem

theorem eqInt_eq (l : List Int) (hl : l.length ≤ 140737488351232) (k : Nat) (hk : l.length < k) : laws_eqIntS.f k l l = some true := by
  unfold laws_eqIntS.f
  rw [if_pos rfl]
  have := scan_loop (fun k i => laws_eqIntS.l0 k l l i) true l.length (by omega)
    (fun k i hi => by simp only [laws_eqIntS.l0]; rw [if_pos (by omega), if_pos (by omega), if_pos (by omega), if_pos trivial])
    (fun k => by simp only [laws_eqIntS.l0]; rw [if_neg (by omega)]) l.length 0 k (by omega) hk
  simpa using this
/-- Marks are laid into the row, and found there. c: what is written for a count. -/
theorem markInt_is (l : List Int) (hl : l.length ≤ 140737488351232) (k : Nat) (hk : l.length < k) : ∃ out, laws_markIntS.f k l 1 = some (1 + (l.length : Int), out) ∧ laws_heldIntS.f k out 1 = some (1 + (l.length : Int)) := by
  obtain ⟨out, h1, h2, h3⟩ := mark_loop (fun c => c) l.length 1 (by omega) (by omega) (fun k x c i => laws_markIntS.l0 k x c i)
    (fun k x i c hx hi => by simp only [laws_markIntS.l0]; rw [if_pos (by omega), if_pos (by omega), Int.toNat_natCast])
    (fun k x c hx => by simp only [laws_markIntS.l0]; rw [if_neg (by omega)]) l.length 0 k l (by omega) hk rfl (fun j hj => absurd hj (by omega))
  refine ⟨out, ?_, ?_⟩
  · unfold laws_markIntS.f; simpa using h1
  · unfold laws_heldIntS.f
    have := held_loop l.length 1 (by omega) (by omega) (fun k c i => laws_heldIntS.l0 k out c i)
      (fun k i c hi hc => by
        simp only [laws_heldIntS.l0]
        have hr : rd out (i : Int) = (fun c => c) (1 + (i : Int)) := by
          have := h3 i hi
          rw [rd_at out i (by omega)]
          rw [List.getElem?_eq_getElem (by omega)] at this
          exact Option.some.inj this
        rw [if_pos (by omega), if_pos (by omega), if_pos (by rw [hr, hc])])
      (fun k c => by simp only [laws_heldIntS.l0]; rw [if_neg (by omega)]) l.length 0 k (by omega) hk
    simpa using this
theorem mark_row_at (n : Nat) (hn : n ≤ 1048576) : ∀ d i : Nat, i + d = n → ∀ (l : List S103) (x : Int), l.length = n → 0 ≤ x → x + 2 * (d : Int) ≤ 4611686018427387904 →
    ∃ l' : List S103, l'.length = n ∧ Evt (fun k => laws_markWayS.l0 k l x i) (x + 2 * d, l') := by
  intro d
  induction d with
  | zero =>
    intro i hi l x hl h0 h1
    refine ⟨l, hl, ev_end fun k => ?_⟩
    simp only [laws_markWayS.l0]; rw [if_neg (by omega)]; simp
  | succ d ih =>
    intro i hi l x hl h0 h1
    obtain ⟨l', h1', h2'⟩ := ih (i + 1) (by omega) ((l.set i (⟨x, (rd_T103 l i).f1⟩ : S103)).set i (⟨(rd_T103 (l.set i (⟨x, (rd_T103 l i).f1⟩ : S103)) i).f0, ((Int.tmod (wrap64 (x + 1)) 3) == 0)⟩ : S103)) (x + 2) (by simpa using hl) (by omega) (by omega)
    refine ⟨l', h1', ev_step (fun k => ?_) (by have e : x + 2 * ((d + 1 : Nat) : Int) = x + 2 + 2 * (d : Int) := by omega
                                               rw [e]; exact h2')⟩
    simp only [laws_markWayS.l0, Option.bind_some, Int.toNat_natCast]
    rw [if_pos (by omega), if_pos (by omega), w64 (n := x + 1) (by omega) (by omega), w64 (n := x + 1 + 1) (by omega) (by omega), w64 (n := (i : Int) + 1) (by omega) (by omega)]
    have e2 : x + 1 + 1 = x + 2 := by omega
    rw [e2]; rfl
theorem mark_rows (n : Nat) (hn : n ≤ 1048576) : ∀ d i : Nat, i + d = n → ∀ (l : List (List S103)) (x : Int), l.length = n → (∀ y ∈ l, y.length ≤ 1048576) → 0 ≤ x → x ≤ 1 + 2097152 * (i : Int) →
    ∃ (m : Int) (l' : List (List S103)), 0 ≤ m ∧ Evt (fun k => laws_markWaySS.l0 k l x i) (m, l') := by
  intro d
  induction d with
  | zero =>
    intro i hi l x hl hm h0 h1
    refine ⟨x, l, h0, ev_end fun k => ?_⟩
    simp only [laws_markWaySS.l0]; rw [if_neg (by omega)]
  | succ d ih =>
    intro i hi l x hl hm h0 h1
    have hlt : i < l.length := by omega
    have hrow : rd_L3 l i = l[i] := by unfold rd_L3; simp [hlt]
    have hr := hm _ (List.getElem_mem hlt)
    obtain ⟨r', hr1, hr2⟩ := mark_row_at l[i].length hr l[i].length 0 (by omega) l[i] x rfl h0 (by omega)
    obtain ⟨m, l', g1, g2⟩ := ih (i + 1) (by omega) (l.set i r') (x + 2 * (l[i].length : Int)) (by simpa using hl) (fun y hy => by
      rcases List.mem_or_eq_of_mem_set hy with h | rfl
      · exact hm y h
      · omega) (by omega) (by push_cast; omega)
    refine ⟨m, l', g1, ev_step (g := fun k => (laws_markWayS.f k l[i] x).bind fun t => laws_markWaySS.l0 k (l.set i t.2) t.1 ((i + 1 : Nat) : Int)) (fun k => ?_) (ev_bind (t := (x + 2 * (l[i].length : Int), r')) hr2 g2)⟩
    simp only [laws_markWaySS.l0, hrow, Int.toNat_natCast]
    rw [if_pos (by omega), if_pos (by omega), w64 (by omega) (by omega)]
    rfl
theorem i1_is (a b c : Int) (ha : 1 ≤ a ∧ a ≤ 16) (l : List (List S103)) (i : Nat) (hi : i < l.length) (hl : l.length ≤ 1048576) (hrl : l[i].length ≤ 1048576) (hw : WaysFrom l[i] 0) (hia : (i : Int) < a) (r : List Int) :
    ∀ d j : Nat, j + d = l[i].length → ∀ acc : List Int, acc.length + d ≤ 1048576 → Evt (fun k => impl_CacheLines.l0 k (acc ++ rowLines a i (l[i].drop j)) l (l.length : Int) ((i + 1 : Nat) : Int) a b c l) r → Evt (fun k => impl_CacheLines.l1 k acc i l (l.length : Int) i l[i] (l[i].length : Int) j a b c l) r := by
  intro d
  induction d with
  | zero =>
    intro j hj acc hacc h
    rw [List.drop_of_length_le (by omega)] at h
    refine ev_step (fun k => ?_) h
    simp only [impl_CacheLines.l1, rowLines, List.map_nil, List.append_nil]
    rw [if_neg (by omega), w64 (by omega) (by omega)]; rfl
  | succ d ih =>
    intro j hj acc hacc h
    have hjl : j < l[i].length := by omega
    obtain ⟨t0, t1, _⟩ := hw j hjl (by omega)
    have hm : 0 ≤ l[i][j].f0 * a ∧ l[i][j].f0 * a ≤ 65535 * 16 := by
      refine ⟨Int.mul_nonneg t0 (by omega), ?_⟩
      exact Int.mul_le_mul t1 ha.2 (by omega) (by omega)
    rw [List.drop_eq_getElem_cons hjl] at h
    have h' := ih (j + 1) (by omega) (acc ++ [l[i][j].f0 * a + i]) (by simp; omega) (by
      have e : acc ++ [l[i][j].f0 * a + i] ++ rowLines a i (l[i].drop (j + 1)) = acc ++ rowLines a i (l[i][j] :: l[i].drop (j + 1)) := by
        simp only [rowLines, List.map_cons, List.append_assoc]; rfl
      rw [e]; exact h)
    refine ev_step (fun k => ?_) h'
    simp only [impl_CacheLines.l1, rdT l[i] j hjl]
    rw [if_pos (by omega), if_pos (by omega), if_pos (by omega), if_pos (by omega), w64 (n := l[i][j].f0 * a) (by omega) (by omega), w64 (n := l[i][j].f0 * a + i) (by omega) (by omega), w64 (by omega) (by omega)]
    rfl
theorem i0_is (a b c : Int) (l : List (List S103)) (hg : GoodC a b c l) (r : List Int) (hr : slices_Sort_int_int.f (allLines a 0 l) = some r) :
    ∀ d i : Nat, i + d = l.length → ∀ acc : List Int, acc.length ≤ 4 * i → acc ++ allLines a i (l.drop i) = allLines a 0 l → Evt (fun k => impl_CacheLines.l0 k acc l (l.length : Int) i a b c l) r := by
  obtain ⟨⟨ha, hb0, hb1, _⟩, hl, hw⟩ := hg
  intro d
  induction d with
  | zero =>
    intro i hi acc hacc h
    rw [List.drop_of_length_le (by omega)] at h
    simp only [allLines, List.append_nil] at h
    refine ev_end (fun k => ?_)
    simp only [impl_CacheLines.l0]
    rw [if_neg (by omega), h, hr]; rfl
  | succ d ih =>
    intro i hi acc hacc h
    have hlt : i < l.length := by omega
    have hrow : rd_L3 l i = l[i] := by unfold rd_L3; simp [hlt]
    obtain ⟨hwl, hwi⟩ := hw i hlt
    rw [List.drop_eq_getElem_cons hlt] at h
    simp only [allLines, ← List.append_assoc] at h
    have h1 := ih (i + 1) (by omega) (acc ++ rowLines a i l[i]) (by simp [rowLines]; omega) h
    refine ev_step (g := fun k => impl_CacheLines.l1 k acc i l (l.length : Int) i l[i] (l[i].length : Int) ((0 : Nat) : Int) a b c l) (fun k => ?_) (i1_is a b c (by omega) l i hlt (by omega) (by omega) hwi (by omega) r l[i].length 0 (by omega) acc (by omega) (by simpa using h1))
    simp only [impl_CacheLines.l0, hrow]
    rw [if_pos (by omega), if_pos (by omega), if_pos (by omega)]; rfl
/-- Two ascending lists with the same members are one. -/
theorem inc_unique : ∀ (xs ys : List Int), xs.Pairwise (· < ·) → ys.Pairwise (· < ·) → (∀ y, y ∈ xs ↔ y ∈ ys) → xs = ys
  | [], [], _, _, _ => rfl
  | [], y :: ys, _, _, h => by have := (h y).2 (by simp); simp at this
  | x :: xs, [], _, _, h => by have := (h x).1 (by simp); simp at this
  | x :: xs, y :: ys, hx, hy, h => by
    obtain ⟨hx1, hx2⟩ := List.pairwise_cons.1 hx
    obtain ⟨hy1, hy2⟩ := List.pairwise_cons.1 hy
    have e : x = y := by
      have h1 := (h x).1 (by simp)
      have h2 := (h y).2 (by simp)
      rcases List.mem_cons.1 h1 with e | h1
      · exact e
      · rcases List.mem_cons.1 h2 with e | h2
        · exact e.symm
        · have := hy1 x h1; have := hx1 y h2; omega
    subst e
    rw [inc_unique xs ys hx2 hy2 (fun z => by
      constructor
      · intro hz
        rcases List.mem_cons.1 ((h z).1 (by simp [hz])) with e | h1
        · have := hx1 z hz; omega
        · exact h1
      · intro hz
        rcases List.mem_cons.1 ((h z).2 (by simp [hz])) with e | h1
        · have := hy1 z hz; omega
        · exact h1)]
theorem lines_both (a b c : Int) (l : List (List S103)) (hl : l.length ≤ 1048576) (hm : ∀ y ∈ l, y.length ≤ 1048576) :
    ∃ r : List Int, r.length ≤ 64 ∧ Evt (fun k => spec_CacheLines.f k a b c l) r ∧ Evt (fun k => impl_CacheLines.f k a b c l) r := by
  obtain ⟨q, q1, q2, q3⟩ := ok_same a b c l hl hm
  unfold spec_CacheLines.f impl_CacheLines.f
  simp only [Option.bind_some]
  cases q with
  | false =>
    refine ⟨[], by simp, ev_bind q1 ?_, ev_bind q2 ?_⟩
    · simp only [Bool.false_eq_true, if_false]; exact ev_of fun _ => rfl
    · simp only [Bool.false_eq_true, if_false]; exact ev_of fun _ => rfl
  | true =>
    have hg := q3 rfl
    obtain ⟨r, r1, r2, r3⟩ := lines_good a b c l hg
    have h64 := all_len a b c l hg
    have hnd : (allLines a 0 l).Nodup := nodup_all a l 0 (by have := hg.2.1; omega) (fun j h => (hg.2.2 j h).2)
    have hperm := List.mergeSort_perm (allLines a 0 l) (fun x y => decide (x ≤ y))
    have hs : ((allLines a 0 l).mergeSort fun x y => decide (x ≤ y)).Pairwise (· < ·) := by
      have h1 := List.pairwise_mergeSort (le := fun x y : Int => decide (x ≤ y)) (fun x y z h1 h2 => by simp at *; omega) (fun x y => by simp; omega) (allLines a 0 l)
      have h2 : ((allLines a 0 l).mergeSort fun x y => decide (x ≤ y)).Nodup := hperm.nodup_iff.2 hnd
      exact (h1.and h2).imp (fun h => by have := h.1; have := h.2; simp at *; omega)
    have e : (allLines a 0 l).mergeSort (fun x y => decide (x ≤ y)) = r := inc_unique _ _ hs r2 (fun y => by rw [r3 y]; exact hperm.mem_iff)
    have hr : slices_Sort_int_int.f (allLines a 0 l) = some r := by
      unfold slices_Sort_int_int.f; rw [if_pos (by omega), e]
    refine ⟨r, by rw [← e, List.length_mergeSort]; exact h64, ev_bind q1 ?_, ev_bind q2 ?_⟩
    · simp only [if_true]; exact r1
    · simp only [if_true]; exact i0_is a b c l hg r hr l.length 0 (by omega) [] (by simp) (by simp)
theorem FnExactCacheLines : ∀ (a b c : Int) (l : List (List S133)), (Lit.int .i64 a).wf = true → (Lit.int .i64 b).wf = true → (Lit.int .i64 c).wf = true → l.length ≤ maxLen → (∀ x ∈ l, x.length ≤ maxLen) → ∃ k, Hyp k a b c l true := by
  intro a b c l _ _ _ hl hm
  obtain ⟨s, hs, hz⟩ := size_is a b c l (by unfold maxLen at hl; omega) (fun x hx => by have := hm x hx; unfold maxLen at this; omega)
  by_cases h0 : s < 0
  · obtain ⟨K, hK⟩ := hs
    exact ⟨K, rfl, s, hK K (Nat.le_refl K), .inl h0⟩
  · obtain ⟨hl', hm'⟩ := hz.resolve_left h0
    have hl2 : (l.map (·.map cv)).length ≤ 1048576 := by simpa using hl'
    have hm2 : ∀ x ∈ l.map (·.map cv), x.length ≤ 1048576 := by
      intro x hx
      obtain ⟨y, hy, rfl⟩ := List.mem_map.1 hx
      simpa using hm' y hy
    obtain ⟨r, hr, f1, f2⟩ := lines_both a b c _ hl2 hm2
    have heqx := eqCache_is a b c _ hl2 hm2
    obtain ⟨mx, Lx, hmx, hmk⟩ := mark_rows _ hl2 (l.map (·.map cv)).length 0 (by omega) (l.map (·.map cv)) 1 rfl hm2 (by omega) (by omega)
    obtain ⟨K0, k0⟩ := hs
    obtain ⟨K1, k1⟩ := toCache_is a b c l hl' hm'
    obtain ⟨K2, k2⟩ := f1
    obtain ⟨K3, k3⟩ := f2
    obtain ⟨K5, k5⟩ := heqx
    obtain ⟨K6, k6⟩ := hmk
    obtain ⟨k, hk⟩ : ∃ k : Nat, k = K0 + K1 + K2 + K3 + K5 + K6 + 100 := ⟨_, rfl⟩
    obtain ⟨out, hma, hhe⟩ := markInt_is r (by omega) k (by omega)
    refine ⟨k, rfl, s, k0 _ (by omega), .inr ⟨1 + (r.length : Int), mx, r, out, l.map (·.map cv), Lx, k1 _ (by omega), k2 _ (by omega), k3 _ (by omega), eqInt_eq r (by omega) k (by omega), k5 _ (by omega), ?_, by omega, hma, hhe, by omega⟩⟩
    have := k6 k (by omega)
    unfold laws_markWaySS.f
    exact this

end Go.Proofs.Ytboginbepgopeaa.Pure

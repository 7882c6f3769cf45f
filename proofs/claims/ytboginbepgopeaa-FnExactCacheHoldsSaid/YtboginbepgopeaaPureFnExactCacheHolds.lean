/- impl.CacheHolds answers what the reference's CacheHolds answers, for every Cache (of more than 2^20 sets and ways the statement asks nothing) and every int, and leaves the Cache as it was. No condition. -/
import Derived.Test.YtboginbepgopeaaLinesFnExactCacheHolds
namespace Go.Proofs.Ytboginbepgopeaa.Pure
open Go.RowKit Go.Proofs.Ytboginbepgopeaa.PFnExactCacheHolds Go.Proofs.YtboginbepgopeaaW.PrintWords Go.Proofs.YtboginbepgopeaaW.PrintLast Go.Proofs.Ytboginbepgopeaa.Lem

theorem scan_is (x c : Int) (hc : c ≠ 0) (l : List Int) (hl : l.length ≤ 1048576) (a b : Int) (L : List (List S103)) : ∀ d i : Nat, i + d = l.length →
    ∃ r, Evt (fun k => spec_CacheHolds.l0 k x l i a b c L) r ∧ (r = true ↔ ∃ j : Nat, ∃ h : j < l.length, i ≤ j ∧ l[j] = wrap64 (Int.tdiv x c)) := by
  intro d
  induction d with
  | zero =>
    intro i hi
    refine ⟨false, ev_end fun k => ?_, ?_⟩
    · simp only [spec_CacheHolds.l0]; rw [if_neg (by omega)]
    · simp only [Bool.false_eq_true, false_iff]; rintro ⟨j, h, h1, _⟩; omega
  | succ d ih =>
    intro i hi
    have hlt : i < l.length := by omega
    have hr := rd_at l i hlt
    by_cases e : l[i] = wrap64 (Int.tdiv x c)
    · refine ⟨true, ev_end fun k => ?_, fun _ => ⟨i, hlt, by omega, e⟩, fun _ => rfl⟩
      simp only [spec_CacheHolds.l0, hr]
      rw [if_pos (by omega), if_pos (by omega), if_neg hc, if_pos e]
    · obtain ⟨r, h1, h2⟩ := ih (i + 1) (by omega)
      refine ⟨r, ev_step (fun k => ?_) h1, h2.trans ?_⟩
      · simp only [spec_CacheHolds.l0, hr]
        rw [if_pos (by omega), if_pos (by omega), if_neg hc, if_neg e, w64 (by omega) (by omega)]; rfl
      · constructor
        · rintro ⟨j, h, g1, g2⟩; exact ⟨j, h, by omega, g2⟩
        · rintro ⟨j, h, g1, g2⟩
          refine ⟨j, h, ?_, g2⟩
          by_cases ej : j = i
          · subst ej; exact absurd g2 e
          · omega
theorem find_is (a b c x : Int) (l : List (List S103)) (hg : GoodC a b c l) (hx : 0 ≤ x ∧ x ≤ 65535) :
    ∃ s m, impl_Cache_find.f a b c l x = some (s, m) ∧ 0 ≤ s ∧ (m ≥ 0 ↔ x / c ∈ allLines a 0 l) := by
  obtain ⟨⟨ha, _, _, hc⟩, hl, hw⟩ := hg
  have ha0 : 0 < a := by omega
  have hq0 : 0 ≤ x / c := Int.ediv_nonneg hx.1 (by omega)
  have hq1 : x / c ≤ x := Int.ediv_le_self _ hx.1
  have hs0 : 0 ≤ x / c % a := Int.emod_nonneg _ (by omega)
  have hs1 : x / c % a < a := Int.emod_lt_of_pos _ ha0
  have ht0 : 0 ≤ x / c / a := Int.ediv_nonneg hq0 (by omega)
  have ht1 : x / c / a ≤ x / c := Int.ediv_le_self _ hq0
  obtain ⟨s, hs⟩ := Int.eq_ofNat_of_zero_le hs0
  have hsl : s < l.length := by omega
  have hrow : rd_L3 l s = l[s] := by unfold rd_L3; simp [hsl]
  refine ⟨s, impl_wayIndex.g (x / c / a) l[s] 0, ?_, by omega, ?_⟩
  · unfold impl_Cache_find.f impl_wayIndex.f
    rw [if_neg (by omega), if_neg (by omega), tdiv_pos hx.1, w64 (n := x / c) (by omega) (by omega), tmod_pos hq0, tdiv_pos hq0, w64 (by omega) (by omega), hs, if_pos (by omega), if_pos (by omega), hrow]
    rfl
  · have hdm : x / c / a * a + x / c % a = x / c := by rw [Int.mul_comm]; have := Int.emod_add_mul_ediv (x / c) a; omega
    rw [mem_all]
    rcases wix (x / c / a) l[s] 0 with ⟨h1, h2⟩ | ⟨m, hm, h1, _, h3⟩
    · rw [h2]
      refine ⟨fun h => absurd h (by omega), ?_⟩
      rintro ⟨s', h', w, hw', e⟩
      have e1 := mod_line (t := w.f0) (s := ((0 + s' : Nat) : Int)) (a := a) (by omega) (by omega)
      rw [← e] at e1
      have : s' = s := by have := e1.1; omega
      subst this
      exact absurd e1.2.symm (h1 w hw')
    · rw [h3]
      refine ⟨fun _ => ⟨s, hsl, l[s][m], List.getElem_mem _, ?_⟩, fun _ => by omega⟩
      rw [h1, Nat.zero_add, ← hs]; exact hdm.symm
theorem FnExactCacheHolds : ∀ (a b c : Int) (l : List (List S133)) (x : Int), (Lit.int .i64 a).wf = true → (Lit.int .i64 b).wf = true → (Lit.int .i64 c).wf = true → l.length ≤ maxLen → (∀ x ∈ l, x.length ≤ maxLen) → (Lit.int .i64 x).wf = true → ∃ k, laws_FnExactCacheHolds.f k a b c l x = some true := by
  intro a b c l x _ _ _ hl hm _
  have main : Evt (fun k => laws_FnExactCacheHolds.f k a b c l x) true := by
    unfold laws_FnExactCacheHolds.f
    obtain ⟨s, hs, hz⟩ := size_is a b c l (by unfold maxLen at hl; omega) (fun x hx => by have := hm x hx; unfold maxLen at this; omega)
    refine ev_bind hs ?_
    by_cases h0 : s < 0
    · simp only [if_pos h0]; exact ev_of fun _ => rfl
    · simp only [if_neg h0]
      obtain ⟨hl', hm'⟩ := hz.resolve_left h0
      have hl2 : (l.map (·.map cv)).length ≤ 1048576 := by simpa using hl'
      have hm2 : ∀ x ∈ l.map (·.map cv), x.length ≤ 1048576 := by
        intro x hx
        obtain ⟨y, hy, rfl⟩ := List.mem_map.1 hx
        simpa using hm' y hy
      obtain ⟨q, q1, q2, q3⟩ := ok_same a b c _ hl2 hm2
      have both : ∃ r, Evt (fun k => spec_CacheHolds.f k a b c (l.map (·.map cv)) x) r ∧ Evt (fun k => impl_CacheHolds.f k a b c (l.map (·.map cv)) x) r := by
        unfold spec_CacheHolds.f impl_CacheHolds.f
        cases q with
        | false =>
          refine ⟨false, ev_bind q1 ?_, ev_bind q2 ?_⟩
          · simp only [Bool.false_eq_true, if_false]; exact ev_end fun k => by simp only [spec_CacheHolds.j0]; rw [if_pos trivial]
          · simp only [Bool.false_eq_true, if_false]; exact ev_of fun _ => rfl
        | true =>
          have hg := q3 rfl
          have hg' := hg
          obtain ⟨⟨ha, _, _, hc⟩, _, _⟩ := hg'
          by_cases hx : 0 ≤ x ∧ x ≤ 65535
          · obtain ⟨L, L1, L2, L3⟩ := lines_good a b c _ hg
            have hq : wrap64 (Int.tdiv x c) = x / c := by
              have := Int.ediv_le_self c hx.1
              have := Int.ediv_nonneg hx.1 (show 0 ≤ c by omega)
              rw [tdiv_pos hx.1, w64 (by omega) (by omega)]
            have hLl : L.length ≤ 1048576 := by
              have h1 := length_le_of_nodup_subset L (allLines a 0 (l.map (·.map cv))) (inc_nodup L2) (fun y hy => (L3 y).1 hy)
              have h2 := all_len a b c _ hg
              omega
            obtain ⟨r, r1, r2⟩ := scan_is x c (by omega) L hLl a b (l.map (·.map cv)) L.length 0 (by omega)
            obtain ⟨s', m, f1, f2, f3⟩ := find_is a b c x _ hg hx
            have hrm : r = decide (m ≥ 0) := by
              rw [Bool.eq_iff_iff, r2, decide_eq_true_eq, f3, ← L3, hq]
              constructor
              · rintro ⟨j, h, _, e⟩; rw [← e]; exact List.getElem_mem _
              · intro h
                obtain ⟨j, hj, e⟩ := List.getElem_of_mem h
                exact ⟨j, hj, by omega, e⟩
            refine ⟨r, ev_bind q1 ?_, ev_bind q2 ?_⟩
            · simp only [if_true, in_eq, Option.bind_some, decide_eq_true hx, Bool.not_true]
              refine ev_step (g := fun k => (spec_CacheLines.f k a b c (l.map (·.map cv))).bind fun t => spec_CacheHolds.l0 k x t ((0 : Nat) : Int) a b c (l.map (·.map cv))) (fun k => ?_) (ev_bind (t := L) ?_ r1)
              · simp only [spec_CacheHolds.j0]; rw [if_neg (by simp)]; rfl
              · unfold spec_CacheLines.f
                simp only [Option.bind_some]
                exact ev_bind q1 (by simpa using L1)
            · simp only [if_true, impl_isAddr.f, within_eq, Option.bind_some, decide_eq_true hx, f1]
              refine ev_of fun _ => ?_
              by_cases hmm : m ≥ 0
              · rw [if_pos hmm, hrm]; simp [f2, hmm]
              · rw [if_neg hmm, hrm]; simp [hmm]
          · refine ⟨false, ev_bind q1 ?_, ev_bind q2 ?_⟩
            · simp only [if_true, in_eq, Option.bind_some, decide_eq_false hx, Bool.not_false]
              exact ev_end fun k => by simp only [spec_CacheHolds.j0]; rw [if_pos trivial]
            · simp only [if_true, impl_isAddr.f, within_eq, Option.bind_some, decide_eq_false hx, Bool.false_eq_true, if_false]
              exact ev_of fun _ => rfl
      obtain ⟨r, r1, r2⟩ := both
      refine ev_bind (toCache_is a b c l hl' hm') (ev_bind r1 (ev_bind (toCache_is a b c l hl' hm') (ev_bind (t := r) r2 ?_)))
      simp only [bne_self_eq_false, Bool.false_eq_true, if_false]
      refine ev_bind (toCache_is a b c l hl' hm') (ev_bind (eqCache_is a b c _ hl2 hm2) (ev_of fun _ => rfl))
  obtain ⟨K, hK⟩ := main
  exact ⟨K, hK K (Nat.le_refl K)⟩

end Go.Proofs.Ytboginbepgopeaa.Pure

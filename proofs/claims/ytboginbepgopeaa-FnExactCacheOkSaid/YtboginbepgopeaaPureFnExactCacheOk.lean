/- impl.CacheOk answers what the reference's CacheOk answers, for every Cache (of more than 2^20 sets and ways the statement asks nothing), and leaves the Cache as it was. No condition. -/
import Derived.Test.YtboginbepgopeaaCacheFnExactCacheOk
namespace Go.Proofs.Ytboginbepgopeaa.Pure
open Go.RowKit Go.Proofs.Ytboginbepgopeaa.PFnExactCacheOk Go.Proofs.YtboginbepgopeaaW.PrintWords Go.Proofs.YtboginbepgopeaaW.PrintLast Go.Proofs.Ytboginbepgopeaa.Lem

theorem FnExactCacheOk : ∀ (a b c : Int) (l : List (List S133)), (Lit.int .i64 a).wf = true → (Lit.int .i64 b).wf = true → (Lit.int .i64 c).wf = true → l.length ≤ maxLen → (∀ x ∈ l, x.length ≤ maxLen) → ∃ k, laws_FnExactCacheOk.f k a b c l = some true := by
  intro a b c l _ _ _ hl hm
  have main : Evt (fun k => laws_FnExactCacheOk.f k a b c l) true := by
    unfold laws_FnExactCacheOk.f
    obtain ⟨s, hs, hz⟩ := size_is a b c l (by unfold maxLen at hl; omega) (fun x hx => by have := hm x hx; unfold maxLen at this; omega)
    refine ev_bind hs ?_
    by_cases h0 : s < 0
    · simp only [if_pos h0]; exact ev_of fun _ => rfl
    · simp only [if_neg h0]
      obtain ⟨hl', hm'⟩ := hz.resolve_left h0
      have hl2 : (l.map (·.map cv)).length ≤ 1048576 := by simpa using hl'
      have hm2 : ∀ x ∈ l.map (·.map cv), x.length ≤ 1048576 := by
        intro x hx
        obtain ⟨y, hy, rfl⟩ := List.mem_map.1 hx
        simpa using hm' y hy
      obtain ⟨q, q1, q2, _⟩ := ok_same a b c _ hl2 hm2
      refine ev_bind (toCache_is a b c l hl' hm') (ev_bind q1 (ev_bind (toCache_is a b c l hl' hm') (ev_bind (t := q) ?_ ?_)))
      · exact ev_bind q2 (ev_of fun _ => rfl)
      · simp only [bne_self_eq_false, Bool.false_eq_true, if_false]
        refine ev_bind (toCache_is a b c l hl' hm') (ev_bind (eqCache_is a b c _ hl2 hm2) (ev_of fun _ => rfl))
  obtain ⟨K, hK⟩ := main
  exact ⟨K, hK K (Nat.le_refl K)⟩

end Go.Proofs.Ytboginbepgopeaa.Pure

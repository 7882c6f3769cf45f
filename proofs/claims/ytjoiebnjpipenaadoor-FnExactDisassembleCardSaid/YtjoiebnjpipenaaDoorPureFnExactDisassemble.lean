/- impl.Disassemble returns what the reference's Disassemble returns, for every list of words (of more than 2^20 the statement asks nothing), and leaves the list as it was. No condition. -/
import Derived.Test.YtjoiebnjpipenaaDoorDisFnExactDisassemble
namespace Go.Proofs.YtjoiebnjpipenaaDoor.Pure
open Go.RowKit Go.Proofs.YtjoiebnjpipenaaDoor.PFnExactDisassemble Go.Proofs.YtjoiebnjpipenaaDoorW.PrintWords Go.Proofs.YtjoiebnjpipenaaDoorW.PrintLast Go.Proofs.YtjoiebnjpipenaaDoor.Lem

theorem toUint32_eq (l : List Int) (hl : l.length ≤ 70368744177664) (k : Nat) (hk : l.length < k) : laws_toUint32S.f k l = some l := by
  unfold laws_toUint32S.f
  rw [if_pos (by omega), if_pos (by omega), Int.toNat_natCast]
  have := copy_loop 0 (fun i => rd l i) l (by omega) (fun i h => rd_at l i h) (fun k x i => laws_toUint32S.l0 k l x i)
    (fun k x i hi hx => by simp only [laws_toUint32S.l0]; rw [if_pos (by omega), if_pos (by omega), if_pos (by omega), Int.toNat_natCast])
    (fun k x => by simp only [laws_toUint32S.l0]; rw [if_neg (by omega)]) l.length 0 k (by omega) hk
  simpa using this
theorem eqUint32_eq (l : List Int) (hl : l.length ≤ 140737488351232) (k : Nat) (hk : l.length < k) : laws_eqUint32S.f k l l = some true := by
  unfold laws_eqUint32S.f
  rw [if_pos rfl]
  have := scan_loop (fun k i => laws_eqUint32S.l0 k l l i) true l.length (by omega)
    (fun k i hi => by simp only [laws_eqUint32S.l0]; rw [if_pos (by omega), if_pos (by omega), if_pos (by omega), if_pos trivial])
    (fun k => by simp only [laws_eqUint32S.l0]; rw [if_neg (by omega)]) l.length 0 k (by omega) hk
  simpa using this
theorem FnExactDisassemble : laws_FnExactDisassemble.Pure := by
  intro l _ hl hw
  have main : Evt (fun k => laws_FnExactDisassemble.f k l) true := by
    unfold laws_FnExactDisassemble.f
    by_cases h0 : (l.length : Int) > 1048576
    · simp only [if_pos h0]; exact ev_of fun _ => rfl
    · simp only [if_neg h0]
      have ht : Evt (fun k => laws_toUint32S.f k l) l := ⟨l.length + 1, fun k hk => toUint32_eq l (by omega) k (by omega)⟩
      have he : Evt (fun k => laws_eqUint32S.f k l l) true := ⟨l.length + 1, fun k hk => eqUint32_eq l (by omega) k (by omega)⟩
      have hj : Evt (fun k => laws_FnExactDisassemble.j0 k l l false) true := by
        refine ev_step (g := fun k => (laws_toUint32S.f k l).bind fun t => ((laws_eqUint32S.f k l t).bind fun t => (if t = true then (some true) else (some false)))) (fun k => ?_) (ev_bind ht (ev_bind he (ev_of fun _ => rfl)))
        simp [laws_FnExactDisassemble.j0]
      have both : ∃ r : ByteArray × Bool, Evt (fun k => spec_Disassemble.f k l) r ∧ impl_Disassemble.f l = some r := by
        by_cases h1 : l.length ≤ 256
        · have hw' : ∀ x ∈ l, 0 ≤ x ∧ x < 4294967296 := fun x hx => u32_of (hw x hx)
          exact ⟨_, dis_spec l h1 hw', dis_impl l h1 hw'⟩
        · refine ⟨(ByteArray.empty, false), ev_of fun k => ?_, ?_⟩
          · unfold spec_Disassemble.f; rw [if_pos (by omega)]; rfl
          · unfold impl_Disassemble.f; rw [if_pos (by omega)]
      obtain ⟨r, r1, r2⟩ := both
      refine ev_bind ht (ev_bind r1 (ev_bind ht ?_))
      simp only [r2, Option.bind_some, if_true, bne_self_eq_false]
      exact hj
  obtain ⟨K, hK⟩ := main
  exact ⟨K, hK K (Nat.le_refl K)⟩

end Go.Proofs.YtjoiebnjpipenaaDoor.Pure

/- impl.Assemble returns what the reference's Assemble returns, for every text, in memory of its own (of a text longer than 2^20 the statement asks nothing). No condition. -/
import Derived.Test.YtaophlekfepkgaaDoorAsmDFnExactAssemble
namespace Go.Proofs.YtaophlekfepkgaaDoor.Pure
open Go.RowKit Go.Proofs.YtaophlekfepkgaaDoor.PFnExactAssemble Go.Proofs.YtaophlekfepkgaaDoorW.PrintWords Go.Proofs.YtaophlekfepkgaaDoorW.PrintLast Go.Proofs.YtaophlekfepkgaaDoor.Lem

theorem eqUint32_eq (l : List Int) (hl : l.length ≤ 140737488351232) (k : Nat) (hk : l.length < k) : laws_eqUint32S.f k l l = some true := by
  unfold laws_eqUint32S.f
  rw [if_pos rfl]
  have := scan_loop (fun k i => laws_eqUint32S.l0 k l l i) true l.length (by omega)
    (fun k i hi => by simp only [laws_eqUint32S.l0]; rw [if_pos (by omega), if_pos (by omega), if_pos (by omega), if_pos trivial])
    (fun k => by simp only [laws_eqUint32S.l0]; rw [if_neg (by omega)]) l.length 0 k (by omega) hk
  simpa using this
theorem p2_len (lb : LB) : ∀ (rs : List RL) (i : Nat) (ws : List Int), (p2 lb rs i ws).1.length ≤ ws.length + rs.length
  | [], i, ws => by simp [p2]
  | r :: t, i, ws => by
    unfold p2
    have h1 : ∀ x : Int, (p2 lb t (i + 1) (ws ++ [x])).1.length ≤ ws.length + (r :: t).length := fun x => by
      have := p2_len lb t (i + 1) (ws ++ [x])
      simp at this ⊢; omega
    split
    · exact h1 _
    · split
      · exact h1 _
      · split
        · split
          · simp
          · exact h1 _
        · have := p2_len lb t (i + 1) ws
          simp at this ⊢; omega
theorem asm_len (s : ByteArray) : (asm s).1.length ≤ 600 := by
  unfold asm
  split
  · rename_i h
    unfold fin2
    split
    · have := p2_len (p1 ((impl_assemble.lines s).map rOf) 0 0 []).1 ((impl_assemble.lines s).map rOf) 0 []
      have h2 := h.2
      rw [List.length_map] at this
      exact Nat.le_trans this (by rw [List.length_nil]; omega)
    · simp
  · simp
theorem mark_all (l : List Int) (hl : l.length ≤ 140737488351232) : ∃ out, ∀ k, l.length < k → laws_markUint32S.f k l 1 = some (1 + (l.length : Int), out) ∧ laws_heldUint32S.f k out 1 = some (1 + (l.length : Int)) := by
  refine ⟨(List.range l.length).map fun j : Nat => (1 + (j : Int)) % 4294967296, fun k hk => ?_⟩
  obtain ⟨out, h1, h2, h3⟩ := mark_loop (fun c => c % 4294967296) l.length 1 (by omega) (by omega) (fun k x c i => laws_markUint32S.l0 k x c i)
    (fun k x i c hx hi => by simp only [laws_markUint32S.l0]; rw [if_pos (by omega), if_pos (by omega), Int.toNat_natCast])
    (fun k x c hx => by simp only [laws_markUint32S.l0]; rw [if_neg (by omega)]) l.length 0 k l (by omega) hk rfl (fun j hj => absurd hj (by omega))
  have ho : out = (List.range l.length).map fun j : Nat => (1 + (j : Int)) % 4294967296 := by
    refine List.ext_getElem? fun j => ?_
    by_cases hj : j < l.length
    · rw [h3 j hj]; simp [hj]
    · rw [List.getElem?_eq_none (by omega), List.getElem?_eq_none (by simp; omega)]
  rw [← ho]
  refine ⟨?_, ?_⟩
  · unfold laws_markUint32S.f; simpa using h1
  · unfold laws_heldUint32S.f
    have := held_loop l.length 1 (by omega) (by omega) (fun k c i => laws_heldUint32S.l0 k out c i)
      (fun k i c hi hc => by
        simp only [laws_heldUint32S.l0]
        have hr : rd out (i : Int) = (1 + (i : Int)) % 4294967296 := by
          have := h3 i hi
          rw [rd_at out i (by omega)]
          rw [List.getElem?_eq_getElem (by omega)] at this
          exact Option.some.inj this
        rw [if_pos (by omega), if_pos (by omega), if_pos (by rw [hr, hc])])
      (fun k c => by simp only [laws_heldUint32S.l0]; rw [if_neg (by omega)]) l.length 0 k (by omega) hk
    simpa using this
theorem FnExactAssemble : laws_FnExactAssemble.Pure := by
  intro s hs
  by_cases hbig : (s.size : Int) > 1048576
  · exact ⟨0, by unfold laws_FnExactAssemble.f; rw [if_pos hbig]⟩
  · obtain ⟨K, hK⟩ := spec_all s (by omega)
    have hi := impl_all s (by omega)
    have hl := asm_len s
    generalize asm s = q at hK hi hl
    obtain ⟨ws, lb, c, line⟩ := q
    dsimp only at hK hi hl
    obtain ⟨k, hk1, hk2⟩ : ∃ k : Nat, K ≤ k ∧ 700 ≤ k := ⟨K + 700, by omega, by omega⟩
    obtain ⟨out, hmh⟩ := mark_all ws (by omega)
    have he := eqUint32_eq ws (by omega)
    have hspec := hK (k + 2) (by omega)
    refine ⟨k + 2, ?_⟩
    unfold laws_FnExactAssemble.f spec_Assemble.f impl_Assemble.f
    rw [if_neg hbig, hspec, hi]
    simp only [Option.bind_some]
    rw [he (k + 2) (by omega)]
    simp only [Option.bind_some, if_true, bne_self_eq_false]
    simp only [laws_FnExactAssemble.j0]
    rw [if_neg (by simp)]
    rw [(hmh (k + 1) (by omega)).1]
    simp only [Option.bind_some]
    rw [(hmh (k + 1) (by omega)).2]
    simp only [Option.bind_some]
    rw [if_neg (by omega), if_pos trivial]
    unfold impl_Assemble.f
    rw [hi]
    simp only [Option.bind_some]
    rw [he (k + 1) (by omega)]
    simp only [Option.bind_some, if_true, bne_self_eq_false]
    simp only [laws_FnExactAssemble.j1]
    rw [if_neg (by simp), (hmh k (by omega)).2]
    simp only [Option.bind_some]
    rw [if_neg (by omega), if_pos trivial]

end Go.Proofs.YtaophlekfepkgaaDoor.Pure

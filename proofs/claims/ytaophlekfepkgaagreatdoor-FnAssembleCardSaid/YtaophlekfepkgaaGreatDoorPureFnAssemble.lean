/- Drawn words, disassembled and assembled, come back, and no label is in their text: for every code (of one longer than 2^20 the statement asks nothing). No condition. -/
import Derived.Test.YtaophlekfepkgaaGreatDoorCodAFnAssemble
import Derived.Test.YtaophlekfepkgaaGreatDoorDrawAFnAssemble
namespace Go.Proofs.YtaophlekfepkgaaGreatDoor.Pure
open Go.RowKit Go.Proofs.YtaophlekfepkgaaGreatDoor.PFnAssemble Go.Proofs.YtaophlekfepkgaaGreatDoorW.PrintWords Go.Proofs.YtaophlekfepkgaaGreatDoorW.PrintLast Go.Proofs.YtaophlekfepkgaaGreatDoor.Lem

theorem same_self (l : List Int) (hl : l.length ≤ 9223372036854775807) : Evt (fun k => laws_sameWords.f k l l) true := by
  unfold laws_sameWords.f
  simp only [if_true]
  have key : ∀ d i : Nat, i + d = l.length → Evt (fun k => laws_sameWords.l0 k l l i) true := by
    intro d
    induction d with
    | zero =>
      intro i hi
      refine ev_end fun k => ?_
      simp only [laws_sameWords.l0]; rw [if_neg (by omega)]
    | succ d ih =>
      intro i hi
      refine ev_step (fun k => ?_) (ih (i + 1) (by omega))
      simp only [laws_sameWords.l0, if_true]
      rw [if_pos (by omega), if_pos (by omega), if_pos (by omega), w64 (by omega) (by omega)]; rfl
  exact key l.length 0 (by omega)
theorem big_is (k : Nat) (l0 : List Int) (h : (l0.length : Int) > 1048576) : laws_FnAssemble.f k l0 = some true := by
  unfold laws_FnAssemble.f laws_big.f
  rw [Option.bind_some, if_pos (decide_eq_true h)]
theorem at_vs (vs : List Int) (hv : W32 vs) : Evt (fun k => (impl_Disassemble.f vs).bind fun bt267 => (if (vs.length : Int) > 256 then (if bt267.2 = true then (some false) else (some (bt267.1.toList == ([] : List UInt8)))) else ((impl_Assemble.f bt267.1).bind fun bt269 => (if bt267.2 = true then (if bt269.2.1 = 0 then (if bt269.2.2 = 0 then ((laws_sameWords.f k bt269.1 vs).bind fun t274 => (if t274 = true then ((impl_LabelsOf.f bt267.1).bind fun t275 => (some ((t275.length : Int) == 0))) else (some false))) else (some false)) else (some false)) else (some false))))) true := by
  by_cases hn : vs.length > 256
  · refine ev_of fun k => ?_
    unfold impl_Disassemble.f
    rw [if_pos hn, Option.bind_some, if_pos (by omega), if_neg (by simp)]
    have he : ByteArray.empty.toList = ([] : List UInt8) := by rw [ByteArray.toList_eq]; rfl
    rw [he]; rfl
  · obtain ⟨x, h1, h2, h3⟩ := round vs hv (by omega)
    have h4 : impl_Assemble.f x = some (vs, 0, 0) := by unfold impl_Assemble.f; rw [h2]; rfl
    simp only [h1, Option.bind_some, if_neg (show ¬ (vs.length : Int) > 256 by omega), h4, if_true, h3]
    refine ev_bind (same_self vs (by omega)) (ev_of fun k => ?_)
    rfl
theorem FnAssemble : laws_FnAssemble.Pure := by
  intro l0 hl _ _
  have hb : l0.length ≤ 4611686018427387904 := by unfold maxLen at hl; omega
  by_cases hbig : (l0.length : Int) > 1048576
  · exact ⟨0, big_is 0 l0 hbig⟩
  · obtain ⟨vs, hv, hd⟩ := draw_some l0 hb
    have hs := ev_bind (h := fun k vs => (impl_Disassemble.f vs).bind fun bt267 => (if (vs.length : Int) > 256 then (if bt267.2 = true then (some false) else (some (bt267.1.toList == ([] : List UInt8)))) else ((impl_Assemble.f bt267.1).bind fun bt269 => (if bt267.2 = true then (if bt269.2.1 = 0 then (if bt269.2.2 = 0 then ((laws_sameWords.f k bt269.1 vs).bind fun t274 => (if t274 = true then ((impl_LabelsOf.f bt267.1).bind fun t275 => (some ((t275.length : Int) == 0))) else (some false))) else (some false)) else (some false)) else (some false))))) hd (at_vs vs hv)
    obtain ⟨K, hK⟩ := hs
    refine ⟨K, ?_⟩
    have := hK K (Nat.le_refl _)
    unfold laws_FnAssemble.f laws_big.f
    rw [Option.bind_some, if_neg (by simpa using hbig)]
    exact this

end Go.Proofs.YtaophlekfepkgaaGreatDoor.Pure

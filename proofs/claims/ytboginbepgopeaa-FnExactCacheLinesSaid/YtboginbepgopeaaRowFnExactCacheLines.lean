/- The statement FnExactCacheLinesSaid: for every argument the law returns true and leaves what it was given as it was. Joined of the pure statement (Pure.FnExactCacheLines) and the walk. Condition: none. -/
import Derived.Test.YtboginbepgopeaaRows
import Derived.Test.YtboginbepgopeaaPFnExactCacheLinesx
import Derived.Test.YtboginbepgopeaaPureFnExactCacheLines
import Derived.Test.YtboginbepgopeaaOpen
import Derived.WalkKit
import Derived.ProofKit
import Derived.OpenShut
import Derived.ShutString
import Derived.ChangeOld
import Derived.Below
import Derived.SizedLaws
import Derived.Test.YtboginbepgopeaaRead
namespace Go.Proofs.Ytboginbepgopeaa.fnExactCacheLines
open Go.ChangeShapes Go.WideShapes Go.ChangeAt Go.RowKit
open Go.ChangeMaps (open_string shut_string)
open Go.Proofs.YtboginbepgopeaaW.PrintWords

set_option linter.unusedVariables false
theorem own : ownKnob Try.prog.godebug = none := by kernel_rfl
theorem laidOut : laidOutB Try.prog = true := by kernel_rfl
set_option maxRecDepth 100000 in
theorem lifted (os : Os) (started : os.Started) (H : Type) (enc : TypeId × Value → H) :
    ReturnsInHanded {} Try.checked os 13 .any (Rows.fnExactCacheLinesSpec.pre6 enc Try.prog Try.f13 Rows.fnExactCacheLinesRow.domain false) (Rows.fnExactCacheLinesSpec.post enc Try.prog Try.f13 false true false false) := by
  refine returnsInHanded_of_change_sized (C := Try.checked) own started (by kernel_rfl) Try.func13
    (ChangeSpec.witness6 (enc := enc) (C := Try.checked) false ⟨#[], #[.agg #[.int .i64 0, .int .i64 0, .int .i64 0, .slice none 0 0]], []⟩ 8 (by kernel_rfl) (by kernel_rfl) (by kernel_rfl) (by kernel_rfl)) ?_
  intro W base args ds gs before hval0 hW hcnd hsz0 _
  have hval : ∀ (j : Nat) t v, Try.f13.params[j]? = some t → args[j]? = some v → Value.okWide Try.prog W .any base t v := hval0
  have hW' := hW
  obtain ⟨p, q, hA0, hV, rfl, hfz, hnd⟩ := hW
  have hA : DataW.TrodAll enc Try.prog W 0 (fun _ => true) true Try.f13.params.toList args.toList ds p := hA0
  rw [Try.params13] at hA hval
  obtain ⟨v0, vs0, d0, ds0, p0, q0, hargs, rfl, rfl, h0, r0⟩ := trodAll_cons hA
  obtain ⟨rfl, rfl, rfl⟩ := trodAll_nil r0
  obtain rfl : args = #[v0] := by cases args; simp_all
  obtain ⟨rfl, rfl⟩ := trodVars_none hV
  have k0 := h0
  have lt0 : ∀ x ∈ p0, x.block < W.heap.size := by obtain ⟨m, hm⟩ := k0; exact DataW.trod_lt m _ _ _ hm
  obtain ⟨cs0, x0, rfl, K0, G0⟩ := Read.tells_top Try.underlying67 (Read.tells_pair Try.underlying67 (by kernel_rfl) rfl rfl (by kernel_rfl) (by kernel_rfl) (Read.tells_triple Try.underlying38 (by kernel_rfl) rfl rfl rfl (by kernel_rfl) (by kernel_rfl) (by kernel_rfl) (Read.tells_int Try.underlying3) (Read.tells_int Try.underlying3) (Read.tells_int Try.underlying3)) (Read.tells_slice Try.underlying65 (by kernel_rfl) (Read.tells_slice Try.underlying121 (by kernel_rfl) (Read.tells_iso (fun x : PFnExactCacheLines.S133 => (x.f0, x.f1)) (fun p => ⟨p.1, p.2⟩) (fun _ => rfl) (Read.tells_pair Try.underlying133 (by kernel_rfl) rfl rfl (by kernel_rfl) (by kernel_rfl) (Read.tells_int Try.underlying3) (Read.tells_bool Try.underlying4)))))) (hval 0 67 v0 rfl rfl) h0
  obtain ⟨⟨a0_0, a0_1, a0_2⟩, l0_3⟩ := x0
  obtain ⟨i0_3, j0_3, e0_3, ⟨i0_2, j0_2, e0_2, h0_0, ⟨i0_1, j0_1, e0_1, h0_1, h0_2⟩⟩, ⟨Al0_3, cpl0_3, h0_3, hcl0_3, hCl0_3⟩⟩ := K0
  obtain ⟨⟨wa0_0, wa0_1, wa0_2⟩, ⟨ml0_3, gl0_3⟩⟩ := G0
  obtain rfl : cs0 = #[.int .i64 a0_0, .int .i64 a0_1, .int .i64 a0_2, .slice Al0_3 l0_3.length cpl0_3] := by
    apply Array.toList_inj.1
    replace h0_0 : _ = ([.int .i64 a0_0] : List Value) := h0_0
    replace h0_1 : _ = ([.int .i64 a0_1] : List Value) := h0_1
    replace h0_2 : _ = ([.int .i64 a0_2] : List Value) := h0_2
    replace h0_3 : _ = ([.slice Al0_3 l0_3.length cpl0_3] : List Value) := h0_3
    simp only [e0_1, e0_2, e0_3, h0_0, h0_1, h0_2, h0_3]; rfl
  clear hA0 hval0 hsz0
  have fin := Pure.FnExactCacheLines a0_0 a0_1 a0_2 l0_3 wa0_0 wa0_1 wa0_2 ml0_3 (fun x hx => (gl0_3 x hx).1)
  obtain ⟨k, fin⟩ := fin
  refine (PFnExactCacheLines.laws_FnExactCacheLines.calls k a0_0 a0_1 a0_2 _ _ l0_3 true W hCl0_3 hcl0_3 fin).mono fun e W' ⟨he, bel⟩ => ?_
  subst he
  exact ⟨_, rfl, _, _, _, [], _, [], hW', trodAll_mk1 (shut_bool Try.underlying4 _), (trodAll_cons_mk (Below.trod laidOut (by kernel_rfl) (of_decide_eq_true (by kernel_rfl)) k0 bel lt0) trodAll_mk0), rfl, bel.frame _, fun h => by cases h⟩
theorem over : Rows.fnExactCacheLinesRow.holds Try.pinned (OpenSpec.ofChange Rows.fnExactCacheLinesSpec) :=
  OpenClaim.holds_of_wide 13 Try.f13 rfl rfl rfl rfl rfl rfl rfl ⟨rfl, rfl, rfl, rfl, rfl⟩ rfl rfl rfl rfl rfl (by kernel_rfl) Try.func13 (by kernel_rfl)
    (of_decide_eq_true (by kernel_rfl)) (by unfold Func.isWrapper; first | (rw [if_pos (by decide +kernel)]; kernel_rfl) | (rw [if_neg (by decide +kernel)]; exact ⟨rfl, rfl⟩))
    (fun os started H enc _ => lifted os started H enc)
theorem proved : Rows.FnExactCacheLinesSaid := over
#print axioms proved
end Go.Proofs.Ytboginbepgopeaa.fnExactCacheLines
namespace Go.Proofs.Ytboginbepgopeaa
/-- The row, under a short name, for the claim. -/
theorem fnExactCacheLines_holds : Rows.FnExactCacheLinesSaid := fnExactCacheLines.proved
end Go.Proofs.Ytboginbepgopeaa

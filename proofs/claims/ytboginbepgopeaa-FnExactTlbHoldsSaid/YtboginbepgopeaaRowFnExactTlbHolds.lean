/- The statement FnExactTlbHoldsSaid: for every argument the law returns true and leaves what it was given as it was. Joined of the pure statement (Pure.FnExactTlbHolds) and the walk. Condition: none. -/
import Derived.Test.YtboginbepgopeaaRows
import Derived.Test.YtboginbepgopeaaPFnExactTlbHoldsx
import Derived.Test.YtboginbepgopeaaPureFnExactTlbHolds
import Derived.Test.YtboginbepgopeaaOpen
import Derived.WalkKit
import Derived.ProofKit
import Derived.OpenShut
import Derived.ShutString
import Derived.ChangeOld
import Derived.Below
import Derived.SizedLaws
namespace Go.Proofs.Ytboginbepgopeaa.fnExactTlbHolds
open Go.ChangeShapes Go.WideShapes Go.ChangeAt Go.RowKit
open Go.ChangeMaps (open_string shut_string)
open Go.Proofs.YtboginbepgopeaaW.PrintWords

set_option linter.unusedVariables false
theorem own : ownKnob Try.prog.godebug = none := by kernel_rfl
theorem laidOut : laidOutB Try.prog = true := by kernel_rfl
def IsRow (k : IntKind) (w : World) (a : Option Addr) (len cap : Nat) (zs : List Int) : Prop :=
  (a = none ∧ len = 0 ∧ cap = 0 ∧ zs = []) ∨
  ∃ x, a = some x ∧ len ≤ cap ∧ cap ≤ maxLen ∧ zs.length = cap ∧ (∀ i, i < zs.length → w.cell? (x.add i) = some (.int k (zs.getD i 0))) ∧ ∀ n ∈ zs, (Lit.int k n).wf = true
set_option maxRecDepth 100000 in
theorem lifted (os : Os) (started : os.Started) (H : Type) (enc : TypeId × Value → H) :
    ReturnsInHanded {} Try.checked os 3 .any (Rows.fnExactTlbHoldsSpec.pre6 enc Try.prog Try.f3 Rows.fnExactTlbHoldsRow.domain false) (Rows.fnExactTlbHoldsSpec.post enc Try.prog Try.f3 false true false false) := by
  refine returnsInHanded_of_change_sized (C := Try.checked) own started (by kernel_rfl) Try.func3
    (ChangeSpec.witness6 (enc := enc) (C := Try.checked) false ⟨#[], #[.agg #[.int .i64 0, .slice none 0 0], .int .i64 0], []⟩ 8 (by kernel_rfl) (by kernel_rfl) (by kernel_rfl) (by kernel_rfl)) ?_
  intro W base args ds gs before hval0 hW hcnd hsz0 _
  have hval : ∀ (j : Nat) t v, Try.f3.params[j]? = some t → args[j]? = some v → Value.okWide Try.prog W .any base t v := hval0
  have hW' := hW
  obtain ⟨p, q, hA0, hV, rfl, hfz, hnd⟩ := hW
  have hA : DataW.TrodAll enc Try.prog W 0 (fun _ => true) true Try.f3.params.toList args.toList ds p := hA0
  rw [Try.params3] at hA hval
  obtain ⟨v0, vs0, d0, ds0, p0, q0, hargs, rfl, rfl, h0, r0⟩ := trodAll_cons hA
  obtain ⟨v1, vs1, d1, ds1, p1, q1, rfl, rfl, rfl, h1, r1⟩ := trodAll_cons r0
  obtain ⟨rfl, rfl, rfl⟩ := trodAll_nil r1
  obtain rfl : args = #[v0, v1] := by cases args; simp_all
  obtain ⟨rfl, rfl⟩ := trodVars_none hV
  have k0 := h0
  have lt0 : ∀ x ∈ p0, x.block < W.heap.size := by obtain ⟨m, hm⟩ := k0; exact DataW.trod_lt m _ _ _ hm
  obtain ⟨c0_0, c0_1, y0_0, y0_1, n0, rfl, t0_0, t0_1⟩ := Open.open_agg2 Try.underlying24 (by kernel_rfl) (by kernel_rfl) (hval 0 24 v0 rfl rfl) h0
  obtain ⟨a0_0, e0_0, -, w0_0⟩ := DataW.trod_int Try.underlying3 t0_0
  obtain rfl := (List.cons.inj e0_0).1
  obtain ⟨Ac0_1, nc0_1, cpc0_1, zc0_1, ec0_1, qc0_1⟩ : ∃ (A : Option Addr) (n_ cp : Nat) (zs : List Int), c0_1 = .slice A n_ cp ∧ IsRow .i64 W A n_ cp zs := by
    rcases open_ints Try.underlying22 Try.underlying3 (by kernel_rfl) t0_1 with ⟨hcs, _⟩ | ⟨x, l, cp, zs, hcs, _, hl, hm, hz, _, hcell, hwz⟩
    · obtain rfl := (List.cons.inj hcs).1; exact ⟨none, 0, 0, [], rfl, .inl ⟨rfl, rfl, rfl, rfl⟩⟩
    · obtain rfl := (List.cons.inj hcs).1; exact ⟨some x, l, cp, zs, rfl, .inr ⟨_, rfl, hl, hm, by simpa using hz, hcell, hwz⟩⟩
  subst ec0_1
  obtain ⟨l0_1, rfl, hrl0_1, hml0_1, hwl0_1, hcl0_1⟩ := ReadsInt.ofRowC qc0_1
  obtain ⟨a1, rfl, rfl, rfl, w1⟩ := open_int Try.underlying3 (hval 1 3 v1 rfl rfl) h1
  clear hA0 hval0 hsz0
  have fin := Pure.FnExactTlbHolds a0_0 l0_1 a1 w0_0 hml0_1 hwl0_1 w1
  obtain ⟨k, fin⟩ := fin
  refine (PFnExactTlbHolds.laws_FnExactTlbHolds.calls k a0_0 _ _ l0_1 a1 true W (Kd.C_of_reads (d := (0 : Int)) (h1 := fun _ => rfl) hrl0_1) hcl0_1 fin).mono fun e W' ⟨he, bel⟩ => ?_
  subst he
  exact ⟨_, rfl, _, _, _, [], _, [], hW', trodAll_mk1 (shut_bool Try.underlying4 _), (trodAll_cons_mk (Below.trod laidOut (by kernel_rfl) (of_decide_eq_true (by kernel_rfl)) k0 bel lt0) (trodAll_cons_mk (shut_int Try.underlying3 w1) trodAll_mk0)), rfl, bel.frame _, fun h => by cases h⟩
theorem over : Rows.fnExactTlbHoldsRow.holds Try.pinned (OpenSpec.ofChange Rows.fnExactTlbHoldsSpec) :=
  OpenClaim.holds_of_wide 3 Try.f3 rfl rfl rfl rfl rfl rfl rfl ⟨rfl, rfl, rfl, rfl, rfl⟩ rfl rfl rfl rfl rfl (by kernel_rfl) Try.func3 (by kernel_rfl)
    (of_decide_eq_true (by kernel_rfl)) (by unfold Func.isWrapper; first | (rw [if_pos (by decide +kernel)]; kernel_rfl) | (rw [if_neg (by decide +kernel)]; exact ⟨rfl, rfl⟩))
    (fun os started H enc _ => lifted os started H enc)
theorem proved : Rows.FnExactTlbHoldsSaid := over
#print axioms proved
end Go.Proofs.Ytboginbepgopeaa.fnExactTlbHolds
namespace Go.Proofs.Ytboginbepgopeaa
/-- The row, under a short name, for the claim. -/
theorem fnExactTlbHolds_holds : Rows.FnExactTlbHoldsSaid := fnExactTlbHolds.proved
end Go.Proofs.Ytboginbepgopeaa

/- impl.BytesOf answers what the reference's BytesOf answers, for every word x: four bytes, the lowest first, in memory of their own. No condition. -/
import Derived.Test.YtkepakklhnhnkaaPFnExactBytesOfx1
import Derived.Test.YtkepakklhnhnkaaLem
namespace Go.Proofs.Ytkepakklhnhnkaa.Pure
open Go.RowKit Go.Proofs.Ytkepakklhnhnkaa.PFnExactBytesOf Go.Proofs.YtkepakklhnhnkaaW.PrintWords Go.Proofs.YtkepakklhnhnkaaW.PrintLast Go.Proofs.Ytkepakklhnhnkaa.Lem

theorem eqByte_eq (l : List Int) (hl : l.length ≤ 140737488351232) (k : Nat) (hk : l.length < k) : laws_eqByteS.f k l l = some true := by
  unfold laws_eqByteS.f
  rw [if_pos rfl]
  have := scan_loop (fun k i => laws_eqByteS.l0 k l l i) true l.length (by omega)
    (fun k i hi => by simp only [laws_eqByteS.l0]; rw [if_pos (by omega), if_pos (by omega), if_pos (by omega), if_pos trivial])
    (fun k => by simp only [laws_eqByteS.l0]; rw [if_neg (by omega)]) l.length 0 k (by omega) hk
  simpa using this
/-- Marks are laid into the row, and found there. c%256: what is written for a count. -/
theorem markByte_is (l : List Int) (hl : l.length ≤ 140737488351232) (k : Nat) (hk : l.length < k) : ∃ out, laws_markByteS.f k l 1 = some (1 + (l.length : Int), out) ∧ laws_heldByteS.f k out 1 = some (1 + (l.length : Int)) := by
  obtain ⟨out, h1, h2, h3⟩ := mark_loop (fun c => c%256) l.length 1 (by omega) (by omega) (fun k x c i => laws_markByteS.l0 k x c i)
    (fun k x i c hx hi => by simp only [laws_markByteS.l0]; rw [if_pos (by omega), if_pos (by omega), Int.toNat_natCast])
    (fun k x c hx => by simp only [laws_markByteS.l0]; rw [if_neg (by omega)]) l.length 0 k l (by omega) hk rfl (fun j hj => absurd hj (by omega))
  refine ⟨out, ?_, ?_⟩
  · unfold laws_markByteS.f; simpa using h1
  · unfold laws_heldByteS.f
    have := held_loop l.length 1 (by omega) (by omega) (fun k c i => laws_heldByteS.l0 k out c i)
      (fun k i c hi hc => by
        simp only [laws_heldByteS.l0]
        have hr : rd out (i : Int) = (fun c => c%256) (1 + (i : Int)) := by
          have := h3 i hi
          rw [rd_at out i (by omega)]
          rw [List.getElem?_eq_getElem (by omega)] at this
          exact Option.some.inj this
        rw [if_pos (by omega), if_pos (by omega), if_pos (by rw [hr, hc])])
      (fun k c => by simp only [laws_heldByteS.l0]; rw [if_neg (by omega)]) l.length 0 k (by omega) hk
    simpa using this

theorem bytes_eq {x : Int} (x0 : 0 ≤ x) (x1 : x < 4294967296) : ∃ l, l.length = 4 ∧ spec_BytesOf.f x = some l ∧ impl_BytesOf.f x = some l := by
  refine ⟨[x % 256, x / 256 % 256, x / 65536 % 256, x / 16777216 % 256], rfl, ?_, rfl⟩
  unfold spec_BytesOf.f
  rw [w64 (n := x) (by omega) (by omega), tmod_pos x0, tdiv_pos x0, tdiv_pos x0, tdiv_pos x0, w64 (n := x / 256) (by omega) (by omega), w64 (n := x / 65536) (by omega) (by omega), w64 (n := x / 16777216) (by omega) (by omega),
    tmod_pos (by omega), tmod_pos (by omega)]
  have e1 : x % 256 % 256 = x % 256 := by omega
  have e2 : x / 256 % 256 % 256 = x / 256 % 256 := by omega
  have e3 : x / 65536 % 256 % 256 = x / 65536 % 256 := by omega
  rw [e1, e2, e3]
theorem FnExactBytesOf : laws_FnExactBytesOf.Pure := by
  intro x hx
  obtain ⟨x0, x1⟩ := u32_of hx
  obtain ⟨l, hl, h1, h2⟩ := bytes_eq x0 x1
  obtain ⟨k, hk⟩ : ∃ k : Nat, 8 < k := ⟨9, by omega⟩
  obtain ⟨out, hm, hh⟩ := markByte_is l (by omega) k (by omega)
  refine ⟨k, ?_⟩
  unfold laws_FnExactBytesOf.f
  rw [h1, h2]
  simp only [Option.bind_some]
  rw [eqByte_eq l (by omega) k (by omega)]
  simp only [Option.bind_some, if_true]
  rw [hm]
  simp only [Option.bind_some]
  rw [hh]
  simp only [Option.bind_some]
  rw [if_neg (by omega)]
  simp
  omega

end Go.Proofs.Ytkepakklhnhnkaa.Pure

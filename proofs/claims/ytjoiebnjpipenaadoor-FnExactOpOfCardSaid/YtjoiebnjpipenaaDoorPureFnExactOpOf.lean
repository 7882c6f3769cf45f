/- impl.OpOf returns what the reference's OpOf returns, for every string (of a string longer than 2^20 the statement asks nothing). No condition. -/
import Derived.Test.YtjoiebnjpipenaaDoorPFnExactOpOfx
import Derived.Test.YtjoiebnjpipenaaDoorLem
namespace Go.Proofs.YtjoiebnjpipenaaDoor.Pure
open Go.RowKit Go.Proofs.YtjoiebnjpipenaaDoor.PFnExactOpOf Go.Proofs.YtjoiebnjpipenaaDoorW.PrintWords Go.Proofs.YtjoiebnjpipenaaDoorW.PrintLast Go.Proofs.YtjoiebnjpipenaaDoor.Lem

/-- From some number of rounds on, f gives r. -/
def Evt {α : Type} (f : Nat → Option α) (r : α) : Prop := ∃ K, ∀ k, K ≤ k → f k = some r
theorem ev_of {α : Type} {f : Nat → Option α} {r : α} (h : ∀ k, f k = some r) : Evt f r := ⟨0, fun k _ => h k⟩
theorem ev_step {α : Type} {f g : Nat → Option α} {r : α} (h : ∀ k, f (k + 1) = g k) (hg : Evt g r) : Evt f r := by
  obtain ⟨K, hK⟩ := hg
  refine ⟨K + 1, fun k hk => ?_⟩
  obtain ⟨k, rfl⟩ : ∃ m, k = m + 1 := ⟨k - 1, by omega⟩
  rw [h, hK k (by omega)]
theorem ev_end {α : Type} {f : Nat → Option α} {r : α} (h : ∀ k, f (k + 1) = some r) : Evt f r := ev_step (g := fun _ => some r) h (ev_of fun _ => rfl)
theorem ev_bind {α β : Type} {g : Nat → Option α} {h : Nat → α → Option β} {t : α} {r : β} (hg : Evt g t) (hh : Evt (fun k => h k t) r) : Evt (fun k => (g k).bind (h k)) r := by
  obtain ⟨K, hK⟩ := hg
  obtain ⟨M, hM⟩ := hh
  refine ⟨K + M, fun k hk => ?_⟩
  simp only [hK k (by omega), Option.bind_some]
  exact hM k (by omega)
theorem ev_both {α β : Type} {f : Nat → Option α} {g : Nat → Option β} {r : α} {s : β} (hf : Evt f r) (hg : Evt g s) : Evt (fun k => (f k).bind fun a => (g k).bind fun b => some (a, b)) (r, s) :=
  ev_bind hf (ev_bind hg (ev_of fun _ => rfl))
/-- A scan that ends at n. -/
theorem ev_scan {α : Type} (g : Nat → Int → Option α) (r : α) (n : Nat) (hs : ∀ i : Nat, i < n → Evt (fun k => g k ((i + 1 : Nat) : Int)) r → Evt (fun k => g k i) r) (he : Evt (fun k => g k n) r) :
    Evt (fun k => g k 0) r := by
  have key : ∀ d i : Nat, i + d = n → Evt (fun k => g k i) r := by
    intro d
    induction d with
    | zero => intro i hi; obtain rfl : i = n := by omega
              exact he
    | succ d ih => intro i hi; exact hs i (by omega) (ih (i + 1) (by omega))
  simpa using key n 0 (by omega)
/-- A list that is turned, one by one, into a new one. -/
theorem ev_copy {α β : Type} (z : β) (cv : α → β) (l : List α) (g : Nat → List β → Int → Option (List β))
    (hs : ∀ (x : List β) (i : Nat) (h : i < l.length) (r : List β), x.length = l.length → Evt (fun k => g k (x.set i (cv l[i])) ((i + 1 : Nat) : Int)) r → Evt (fun k => g k x i) r)
    (he : ∀ x : List β, x.length = l.length → Evt (fun k => g k x l.length) x) : Evt (fun k => g k (List.replicate l.length z) 0) (l.map cv) := by
  have key : ∀ d i : Nat, i + d = l.length → Evt (fun k => g k ((l.map cv).take i ++ List.replicate d z) i) (l.map cv) := by
    intro d
    induction d with
    | zero =>
      intro i hi
      obtain rfl : i = l.length := by omega
      have := he ((l.map cv).take l.length ++ List.replicate 0 z) (by simp)
      have e : (l.map cv).take l.length ++ List.replicate 0 z = l.map cv := by
        rw [List.take_of_length_le (by simp)]; simp
      rw [e] at this ⊢; exact this
    | succ d ih =>
      intro i hi
      have hlt : i < l.length := by omega
      refine hs _ i hlt _ (by simp; omega) ?_
      have e : ((l.map cv).take i ++ List.replicate (d + 1) z).set i (cv l[i]) = (l.map cv).take (i + 1) ++ List.replicate d z := by
        rw [List.set_append_right _ _ (by simp; omega)]
        have : i - ((l.map cv).take i).length = 0 := by simp; omega
        rw [this, List.replicate_succ, List.set_cons_zero, List.take_succ_eq_append_getElem (by simpa using hlt), List.append_assoc]
        simp
      rw [e]
      exact ih (i + 1) (by omega)
  have := key l.length 0 (by omega)
  simpa using this
theorem names_eq : spec_l02Names.f = some ((List.range 33).map Tab.nm) := by kernel_rfl
theorem names_at (n : Nat) (h : n < 33) : rdOf ByteArray.empty ((List.range 33).map Tab.nm) n = Tab.nm n := by
  unfold rdOf; rw [Int.toNat_natCast]; simp [List.getD, h]
theorem toList_inj {a b : ByteArray} : a.toList = b.toList ↔ a = b := by
  constructor
  · intro h
    have e : a.data.toList = b.data.toList := by simpa [ByteArray.toList_eq] using h
    cases a; cases b; simp at e; simp [e]
  · rintro rfl; rfl
theorem find_is (x : ByteArray) : ∀ d i : Nat, i + d = 33 → Evt (fun k => spec_OpOf.l0 k x i) (Lib.idxFromS (((List.range 33).map Tab.nm).drop i) x i) := by
  intro d
  induction d with
  | zero =>
    intro i hi
    obtain rfl : i = 33 := by omega
    refine ev_end fun k => ?_
    simp only [spec_OpOf.l0]; rw [if_neg (by omega)]; rfl
  | succ d ih =>
    intro i hi
    have hlt : i < ((List.range 33).map Tab.nm).length := by simp; omega
    have hd : ((List.range 33).map Tab.nm).drop i = Tab.nm i :: ((List.range 33).map Tab.nm).drop (i + 1) := by
      rw [List.drop_eq_getElem_cons hlt]; simp
    rw [hd]
    by_cases e : Tab.nm i = x
    · refine ev_end fun k => ?_
      simp only [spec_OpOf.l0, names_eq, Option.bind_some]
      rw [if_pos (by omega), if_pos (by omega), if_pos (by simp; omega), names_at i (by omega), if_pos (toList_inj.2 e)]
      simp [Lib.idxFromS, e]
    · refine ev_step (fun k => ?_) (by simpa [Lib.idxFromS, e] using ih (i + 1) (by omega))
      simp only [spec_OpOf.l0, names_eq, Option.bind_some]
      rw [if_pos (by omega), if_pos (by omega), if_pos (by simp; omega), names_at i (by omega), if_neg (fun h => e (toList_inj.1 h)), w64 (by omega) (by omega)]
      try rfl
theorem FnExactOpOf : laws_FnExactOpOf.Pure := by
  intro x _
  have main : Evt (fun k => laws_FnExactOpOf.f k x) true := by
    unfold laws_FnExactOpOf.f
    by_cases h0 : (x.size : Int) > 1048576
    · simp only [if_pos h0]; exact ev_of fun _ => rfl
    · simp only [if_neg h0]
      have := find_is x 33 0 (by omega)
      refine ev_bind (t := Lib.idxOfS ((List.range 33).map Tab.nm) x) (by simpa [Lib.idxOfS, spec_OpOf.f] using this) (ev_of fun _ => ?_)
      simp [impl_OpOf.f]
  obtain ⟨K, hK⟩ := main
  exact ⟨K, hK K (Nat.le_refl K)⟩

end Go.Proofs.YtjoiebnjpipenaaDoor.Pure

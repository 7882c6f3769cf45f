/- impl.TlbRun returns what the reference's TlbRun returns, for every int and every []int (of more than 2^20 the statement asks nothing), in memory of its own, its argument as it was. No condition. -/
import Derived.Test.YtboginbepgopeaaPFnExactTlbRunx
import Derived.Test.YtboginbepgopeaaLem
set_option linter.unusedVariables false
namespace Go.Proofs.Ytboginbepgopeaa.Pure
open Go.RowKit Go.Proofs.Ytboginbepgopeaa.PFnExactTlbRun Go.Proofs.YtboginbepgopeaaW.PrintWords Go.Proofs.YtboginbepgopeaaW.PrintLast Go.Proofs.Ytboginbepgopeaa.Lem

/-- From some number of rounds on, f gives r. -/
def Evt {α : Type} (f : Nat → Option α) (r : α) : Prop := ∃ K, ∀ k, K ≤ k → f k = some r
theorem ev_of {α : Type} {f : Nat → Option α} {r : α} (h : ∀ k, f k = some r) : Evt f r := ⟨0, fun k _ => h k⟩
theorem ev_step {α : Type} {f g : Nat → Option α} {r : α} (h : ∀ k, f (k + 1) = g k) (hg : Evt g r) : Evt f r := by
  obtain ⟨K, hK⟩ := hg
  refine ⟨K + 1, fun k hk => ?_⟩
  obtain ⟨k, rfl⟩ : ∃ m, k = m + 1 := ⟨k - 1, by omega⟩
  rw [h, hK k (by omega)]
theorem ev_end {α : Type} {f : Nat → Option α} {r : α} (h : ∀ k, f (k + 1) = some r) : Evt f r := ev_step (g := fun _ => some r) h (ev_of fun _ => rfl)
theorem ev_bind {α β : Type} {g : Nat → Option α} {h : Nat → α → Option β} {t : α} {r : β} (hg : Evt g t) (hh : Evt (fun k => h k t) r) : Evt (fun k => (g k).bind (h k)) r := by
  obtain ⟨K, hK⟩ := hg
  obtain ⟨M, hM⟩ := hh
  refine ⟨K + M, fun k hk => ?_⟩
  simp only [hK k (by omega), Option.bind_some]
  exact hM k (by omega)
theorem ev_both {α β : Type} {f : Nat → Option α} {g : Nat → Option β} {r : α} {s : β} (hf : Evt f r) (hg : Evt g s) : Evt (fun k => (f k).bind fun a => (g k).bind fun b => some (a, b)) (r, s) :=
  ev_bind hf (ev_bind hg (ev_of fun _ => rfl))
/-- A scan that ends at n. -/
theorem ev_scan {α : Type} (g : Nat → Int → Option α) (r : α) (n : Nat) (hs : ∀ i : Nat, i < n → Evt (fun k => g k ((i + 1 : Nat) : Int)) r → Evt (fun k => g k i) r) (he : Evt (fun k => g k n) r) :
    Evt (fun k => g k 0) r := by
  have key : ∀ d i : Nat, i + d = n → Evt (fun k => g k i) r := by
    intro d
    induction d with
    | zero => intro i hi; obtain rfl : i = n := by omega
              exact he
    | succ d ih => intro i hi; exact hs i (by omega) (ih (i + 1) (by omega))
  simpa using key n 0 (by omega)
/-- A list that is turned, one by one, into a new one. -/
theorem ev_copy {α β : Type} (z : β) (cv : α → β) (l : List α) (g : Nat → List β → Int → Option (List β))
    (hs : ∀ (x : List β) (i : Nat) (h : i < l.length) (r : List β), x.length = l.length → Evt (fun k => g k (x.set i (cv l[i])) ((i + 1 : Nat) : Int)) r → Evt (fun k => g k x i) r)
    (he : ∀ x : List β, x.length = l.length → Evt (fun k => g k x l.length) x) : Evt (fun k => g k (List.replicate l.length z) 0) (l.map cv) := by
  have key : ∀ d i : Nat, i + d = l.length → Evt (fun k => g k ((l.map cv).take i ++ List.replicate d z) i) (l.map cv) := by
    intro d
    induction d with
    | zero =>
      intro i hi
      obtain rfl : i = l.length := by omega
      have := he ((l.map cv).take l.length ++ List.replicate 0 z) (by simp)
      have e : (l.map cv).take l.length ++ List.replicate 0 z = l.map cv := by
        rw [List.take_of_length_le (by simp)]; simp
      rw [e] at this ⊢; exact this
    | succ d ih =>
      intro i hi
      have hlt : i < l.length := by omega
      refine hs _ i hlt _ (by simp; omega) ?_
      have e : ((l.map cv).take i ++ List.replicate (d + 1) z).set i (cv l[i]) = (l.map cv).take (i + 1) ++ List.replicate d z := by
        rw [List.set_append_right _ _ (by simp; omega)]
        have : i - ((l.map cv).take i).length = 0 := by simp; omega
        rw [this, List.replicate_succ, List.set_cons_zero, List.take_succ_eq_append_getElem (by simpa using hlt), List.append_assoc]
        simp
      rw [e]
      exact ih (i + 1) (by omega)
  have := key l.length 0 (by omega)
  simpa using this
theorem toInt_eq (l : List Int) (hl : l.length ≤ 35184372088832) (k : Nat) (hk : l.length < k) : laws_toIntS.f k l = some l := by
  unfold laws_toIntS.f
  rw [if_pos (by omega), if_pos (by omega), Int.toNat_natCast]
  have := copy_loop 0 (fun i => rd l i) l (by omega) (fun i h => rd_at l i h) (fun k x i => laws_toIntS.l0 k l x i)
    (fun k x i hi hx => by simp only [laws_toIntS.l0]; rw [if_pos (by omega), if_pos (by omega), if_pos (by omega), Int.toNat_natCast])
    (fun k x => by simp only [laws_toIntS.l0]; rw [if_neg (by omega)]) l.length 0 k (by omega) hk
  simpa using this
theorem eqInt_eq (l : List Int) (hl : l.length ≤ 140737488351232) (k : Nat) (hk : l.length < k) : laws_eqIntS.f k l l = some true := by
  unfold laws_eqIntS.f
  rw [if_pos rfl]
  have := scan_loop (fun k i => laws_eqIntS.l0 k l l i) true l.length (by omega)
    (fun k i hi => by simp only [laws_eqIntS.l0]; rw [if_pos (by omega), if_pos (by omega), if_pos (by omega), if_pos trivial])
    (fun k => by simp only [laws_eqIntS.l0]; rw [if_neg (by omega)]) l.length 0 k (by omega) hk
  simpa using this
theorem markInt_is (l : List Int) (hl : l.length ≤ 140737488351232) (k : Nat) (hk : l.length < k) : ∃ out, laws_markIntS.f k l 1 = some (1 + (l.length : Int), out) := by
  obtain ⟨out, h1, _, _⟩ := mark_loop (fun c => c) l.length 1 (by omega) (by omega) (fun k x c i => laws_markIntS.l0 k x c i)
    (fun k x i c hx hi => by simp only [laws_markIntS.l0]; rw [if_pos (by omega), if_pos (by omega), Int.toNat_natCast])
    (fun k x c hx => by simp only [laws_markIntS.l0]; rw [if_neg (by omega)]) l.length 0 k l (by omega) hk rfl (fun j hj => absurd hj (by omega))
  exact ⟨out, by unfold laws_markIntS.f; simpa using h1⟩
theorem rdOf_at (l : List Bool) (i : Nat) (h : i < l.length) : rdOf false l (i : Int) = l[i] := by
  unfold rdOf; simp [h]
theorem eqBool_eq (l : List Bool) (hl : l.length ≤ 140737488351232) (k : Nat) (hk : l.length < k) : laws_eqBoolS.f k l l = some true := by
  unfold laws_eqBoolS.f
  rw [if_pos rfl]
  have := scan_loop (fun k i => laws_eqBoolS.l0 k l l i) true l.length (by omega)
    (fun k i hi => by simp only [laws_eqBoolS.l0]; rw [if_pos (by omega), if_pos (by omega), if_pos (by omega), if_neg (by simp)])
    (fun k => by simp only [laws_eqBoolS.l0]; rw [if_neg (by omega)]) l.length 0 k (by omega) hk
  simpa using this
theorem markBool_is (l : List Bool) (hl : l.length ≤ 140737488351232) (k : Nat) (hk : l.length < k) : ∃ out, laws_markBoolS.f k l 1 = some (1 + (l.length : Int), out) ∧ laws_heldBoolS.f k out 1 = some (1 + (l.length : Int)) := by
  obtain ⟨out, h1, h2, h3⟩ := mark_loop (fun c => Int.tmod c 3 == 0) l.length 1 (by omega) (by omega) (fun k x c i => laws_markBoolS.l0 k x c i)
    (fun k x i c hx hi => by simp only [laws_markBoolS.l0]; rw [if_pos (by omega), if_pos (by omega), Int.toNat_natCast])
    (fun k x c hx => by simp only [laws_markBoolS.l0]; rw [if_neg (by omega)]) l.length 0 k l (by omega) hk rfl (fun j hj => absurd hj (by omega))
  refine ⟨out, by simpa [laws_markBoolS.f] using h1, ?_⟩
  have := held_loop l.length 1 (by omega) (by omega) (fun k c i => laws_heldBoolS.l0 k out c i)
    (fun k i c hi hc => by
      have h4 := h3 i hi
      have e : rdOf false out (i : Int) = (Int.tmod c 3 == 0) := by
        rw [rdOf_at out i (by omega)]
        rw [List.getElem?_eq_getElem (by omega)] at h4
        rw [Option.some.inj h4, hc]
      simp only [laws_heldBoolS.l0]
      rw [if_pos (by omega), if_pos (by omega), e, if_neg (by simp)])
    (fun k c => by simp only [laws_heldBoolS.l0]; rw [if_neg (by omega)]) l.length 0 k (by omega) hk
  simpa [laws_heldBoolS.f] using this
theorem tlb_in (n a b : Int) : spec_l01In.f n a b = some (decide (a ≤ n ∧ n ≤ b)) := by
  unfold spec_l01In.f
  by_cases h : n ≥ a
  · rw [if_pos h]; congr 1; simp; omega
  · rw [if_neg h]; congr 1; simp; omega
theorem has_is (l : List Int) (p : Int) (hl : l.length ≤ 4000) : ∀ d i : Nat, i + d = l.length → Evt (fun k => spec_l06Has.l0 k l p i) ((l.drop i).contains p) := by
  intro d
  induction d with
  | zero =>
    intro i hi
    rw [List.drop_eq_nil_of_le (by omega)]
    refine ev_end fun k => ?_
    simp only [spec_l06Has.l0]; rw [if_neg (by omega)]; rfl
  | succ d ih =>
    intro i hi
    have hlt : i < l.length := by omega
    rw [List.drop_eq_getElem_cons hlt, List.contains_cons]
    by_cases e : p = l[i]
    · rw [beq_iff_eq.2 e, Bool.true_or]
      refine ev_end fun k => ?_
      simp only [spec_l06Has.l0]
      rw [if_pos (by omega), if_pos (by omega), rd_at l i hlt, if_pos e.symm]
    · rw [beq_eq_false_iff_ne.2 e, Bool.false_or]
      refine ev_step (fun k => ?_) (ih (i + 1) (by omega))
      simp only [spec_l06Has.l0]
      rw [if_pos (by omega), if_pos (by omega), rd_at l i hlt, if_neg (fun h => e h.symm), w64 (by omega) (by omega)]
      rfl
theorem use_is (size : Int) (pages : List Int) (a : Int) (hl : pages.length ≤ 100) : Evt (fun k => spec_l06Use.f k size pages a) (size, (impl_TlbRun.use size pages (wrap64 (Int.tdiv a 64))).2, (impl_TlbRun.use size pages (wrap64 (Int.tdiv a 64))).1) := by
  have hh := has_is pages (wrap64 (Int.tdiv a 64)) (by omega) pages.length 0 (by omega)
  rw [List.drop_zero] at hh
  unfold spec_l06Use.f impl_TlbRun.use
  simp only [Option.bind_some, List.nil_append]
  simp only [if_pos (show ([] : List Int).length + pages.length < 17592186044416 by simp; omega)]
  refine ev_bind (t := pages.contains (wrap64 (Int.tdiv a 64))) hh (ev_of fun k => ?_)
  cases hc : pages.contains (wrap64 (Int.tdiv a 64)) with
  | true => simp
  | false =>
    have hlen : (((pages ++ [wrap64 (Int.tdiv a 64)]).length : Nat) : Int) = (pages.length : Int) + 1 := by simp
    simp only [Bool.false_eq_true, if_false]
    rw [if_pos (by omega), hlen]
    by_cases h : (pages.length : Int) + 1 > size
    · rw [if_pos h, if_pos h, if_pos (by omega), if_pos (by simp; omega)]
    · rw [if_neg h, if_neg h]
theorem l1_is (l1 : List Int) (size : Int) (hs : 1 ≤ size ∧ size ≤ 8) (hl : l1.length ≤ 2000) : ∀ d i : Nat, i + d = l1.length → ∀ (acc : List Bool) (pages : List Int), acc.length = i → (pages.length : Int) ≤ size →
    Evt (fun k => spec_TlbRun.l1 k l1 acc i size pages) (impl_TlbRun.go size (l1.drop i) pages acc) := by
  intro d
  induction d with
  | zero =>
    intro i hi acc pages ha hp
    rw [List.drop_eq_nil_of_le (by omega)]
    refine ev_end fun k => ?_
    simp only [spec_TlbRun.l1]; rw [if_neg (by omega)]; rfl
  | succ d ih =>
    intro i hi acc pages ha hp
    have hlt : i < l1.length := by omega
    rw [List.drop_eq_getElem_cons hlt]
    have hu := use_is size pages l1[i] (by omega)
    have h1 := ih (i + 1) (by omega) (acc ++ [(impl_TlbRun.use size pages (wrap64 (Int.tdiv l1[i] 64))).1]) _ (by simp [ha]) (impl_TlbRun.useLen size pages (wrap64 (Int.tdiv l1[i] 64)) hs hp)
    refine ev_step (g := fun k => (spec_l06Use.f k size pages l1[i]).bind fun bt139 => (if acc.length < 140737488355328 then (spec_TlbRun.l1 k l1 (acc ++ [bt139.2.2]) ((i + 1 : Nat) : Int) bt139.1 bt139.2.1) else (none))) (fun k => ?_) (ev_bind hu ?_)
    · simp only [spec_TlbRun.l1]
      rw [if_pos (by omega), if_pos (by omega), rd_at l1 i hlt, w64 (by omega) (by omega)]
      rfl
    · simp only [if_pos (show acc.length < 140737488355328 by omega)]
      exact h1
theorem l0_is (l1 : List Int) (size : Int) (hl : l1.length ≤ 2000) (R : List Bool) (hR : Evt (fun k => (spec_TlbEmpty.f size).bind fun bt133 => (spec_TlbRun.l1 k l1 [] 0 bt133.1 bt133.2)) R) : ∀ d i : Nat, i + d = l1.length →
    Evt (fun k => spec_TlbRun.l0 k size l1 [] i) (if (impl_TlbRun.bad (l1.drop i)) = false then R else []) := by
  intro d
  induction d with
  | zero =>
    intro i hi
    rw [List.drop_eq_nil_of_le (by omega), show impl_TlbRun.bad [] = false from rfl, if_pos rfl]
    refine ev_step (fun k => ?_) hR
    simp only [spec_TlbRun.l0]; rw [if_neg (by omega)]
  | succ d ih =>
    intro i hi
    have hlt : i < l1.length := by omega
    rw [List.drop_eq_getElem_cons hlt]
    have hb : impl_TlbRun.bad (l1[i] :: l1.drop (i + 1)) = (!(decide (0 ≤ l1[i] ∧ l1[i] ≤ 65535)) || impl_TlbRun.bad (l1.drop (i + 1))) := by unfold impl_TlbRun.bad; rw [List.any_cons]
    rw [hb]
    by_cases h : 0 ≤ l1[i] ∧ l1[i] ≤ 65535
    · rw [decide_eq_true h, Bool.not_true, Bool.false_or]
      refine ev_step (fun k => ?_) (ih (i + 1) (by omega))
      simp only [spec_TlbRun.l0]
      rw [if_pos (by omega), if_pos (by omega), rd_at l1 i hlt, tlb_in, decide_eq_true h, w64 (by omega) (by omega)]
      simp
    · rw [decide_eq_false h, Bool.not_false, Bool.true_or, if_neg (by simp)]
      refine ev_end fun k => ?_
      simp only [spec_TlbRun.l0]
      rw [if_pos (by omega), if_pos (by omega), rd_at l1 i hlt, tlb_in, decide_eq_false h]
      simp
theorem go_len (size : Int) : ∀ (l : List Int) (pages : List Int) (acc : List Bool), (impl_TlbRun.go size l pages acc).length = acc.length + l.length
  | [], _, acc => by simp [impl_TlbRun.go]
  | a :: l, pages, acc => by rw [impl_TlbRun.go, go_len size l]; simp; omega
theorem run_both (a0 : Int) (l1 : List Int) : ∃ R : List Bool, R.length ≤ 2000 ∧ Evt (fun k => spec_TlbRun.f k a0 l1) R ∧ impl_TlbRun.f a0 l1 = some R := by
  unfold impl_TlbRun.f spec_TlbRun.f
  simp only [Option.bind_some, tlb_in]
  by_cases h1 : 1 ≤ a0 ∧ a0 ≤ 8
  · simp only [decide_eq_true h1, if_true]
    by_cases h2 : (l1.length : Int) ≤ 2000
    · have hgo := l1_is l1 a0 h1 (by omega) l1.length 0 (by omega) [] [] rfl (by simp; omega)
      rw [List.drop_zero] at hgo
      have hE : spec_TlbEmpty.f a0 = some (a0, []) := by
        unfold spec_TlbEmpty.f; rw [tlb_in, decide_eq_true h1]; rfl
      have h0 := l0_is l1 a0 (by omega) _ (by simp only [hE, Option.bind_some]; exact hgo) l1.length 0 (by omega)
      rw [List.drop_zero] at h0
      refine ⟨_, ?_, ?_, rfl⟩
      · split
        · rw [go_len]; simp; omega
        · simp
      · have e : (if ((1 ≤ a0 ∧ a0 ≤ 8) ∧ (l1.length : Int) ≤ 2000) ∧ impl_TlbRun.bad l1 = false then impl_TlbRun.go a0 l1 [] [] else []) = (if impl_TlbRun.bad l1 = false then impl_TlbRun.go a0 l1 [] [] else []) := by simp [h1, h2]
        rw [e]
        refine ev_step (fun k => ?_) h0
        simp only [spec_TlbRun.j0]
        rw [if_neg (by simp; omega)]; rfl
    · refine ⟨[], by simp, ev_end fun k => ?_, by simp [h2]⟩
      simp only [spec_TlbRun.j0]
      rw [if_pos (by simp; omega)]
  · refine ⟨[], by simp, ?_, by simp [h1]⟩
    simp only [decide_eq_false h1, Bool.false_eq_true, if_false]
    refine ev_end fun k => ?_
    simp [spec_TlbRun.j0]
theorem FnExactTlbRun : laws_FnExactTlbRun.Pure := by
  intro a0 l1 _ _ _ _
  by_cases h0 : (l1.length : Int) > 1048576
  · exact ⟨0, by unfold laws_FnExactTlbRun.f; rw [if_pos h0]⟩
  · obtain ⟨R, hR, ⟨K, hK⟩, h2⟩ := run_both a0 l1
    obtain ⟨k, hk⟩ : ∃ k : Nat, k = K + l1.length + 3000 := ⟨_, rfl⟩
    have e1 := toInt_eq l1 (by omega) (k + 1) (by omega)
    have e2 : spec_TlbRun.f (k + 1) a0 l1 = some R := hK (k + 1) (by omega)
    have e3 := eqBool_eq R (by omega) (k + 1) (by omega)
    have e4 := eqInt_eq l1 (by omega) (k + 1) (by omega)
    obtain ⟨o1, m1⟩ := markInt_is l1 (by omega) (k + 1) (by omega)
    obtain ⟨o2, m2, m3⟩ := markBool_is R (by omega) k (by omega)
    have e5 := toInt_eq l1 (by omega) k (by omega)
    have e6 := eqBool_eq R (by omega) k (by omega)
    refine ⟨k + 1, ?_⟩
    unfold laws_FnExactTlbRun.f
    rw [if_neg h0, e1, Option.bind_some, e2, Option.bind_some, Option.bind_some, h2, Option.bind_some, e3, Option.bind_some, if_pos rfl, Option.bind_some, e4, Option.bind_some, if_pos rfl, m1, Option.bind_some, if_neg (by simp only; omega), Option.bind_some]
    simp only [laws_FnExactTlbRun.j0, Bool.not_true]
    rw [if_neg (by simp), m2, Option.bind_some]
    simp only
    rw [m3, Option.bind_some, if_neg (by omega), if_pos rfl, e5, Option.bind_some, h2, Option.bind_some, e6, Option.bind_some, if_pos rfl, Option.bind_some, if_neg (by omega), if_pos rfl]

end Go.Proofs.Ytboginbepgopeaa.Pure

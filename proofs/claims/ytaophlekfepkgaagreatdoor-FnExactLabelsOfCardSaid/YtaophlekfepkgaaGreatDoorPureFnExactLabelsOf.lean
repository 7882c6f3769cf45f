/- impl.LabelsOf returns what the reference's LabelsOf returns, for every text, in memory of its own (of a text longer than 2^20 the statement asks nothing). No condition. -/
import Derived.Test.YtaophlekfepkgaaGreatDoorLabelsFnExactLabelsOf
namespace Go.Proofs.YtaophlekfepkgaaGreatDoor.PFnExactLabelsOf
open Go.RowKit Go.Proofs.YtaophlekfepkgaaGreatDoorW.PrintWords Go.Proofs.YtaophlekfepkgaaGreatDoorW.PrintLast Go.Proofs.YtaophlekfepkgaaGreatDoor.Lem

theorem mark_text : ∀ (f x : Nat), x ≤ f → ∀ acc : ByteArray, acc.size + x ≤ 100000 → ∃ r, Evt (fun k => laws_markText.l0 k (x : Int) acc) r := by
  intro f
  induction f with
  | zero =>
    intro x hx acc ha
    obtain rfl : x = 0 := by omega
    refine ⟨(⟨#[109]⟩ : ByteArray) ++ acc, ev_end fun k => ?_⟩
    simp only [laws_markText.l0]
    rw [if_neg (by omega), if_pos (by omega)]
  | succ f ih =>
    intro x hx acc ha
    by_cases h0 : x = 0
    · subst h0
      refine ⟨(⟨#[109]⟩ : ByteArray) ++ acc, ev_end fun k => ?_⟩
      simp only [laws_markText.l0]
      rw [if_neg (by omega), if_pos (by omega)]
    · have hs : ∀ z : Int, (strOfNums [z]).size = 1 := fun z => by simp [strOfNums, ByteArray.size]
      have h1 := hs ((wrap64 (48 + (Int.tmod (x : Int) 10))) % 256)
      obtain ⟨r, hr⟩ := ih (x / 10) (by omega) (strOfNums [(wrap64 (48 + (Int.tmod (x : Int) 10))) % 256] ++ acc) (by rw [ByteArray.size_append, h1]; omega)
      refine ⟨r, ev_step (fun k => ?_) hr⟩
      have ht : wrap64 (Int.tdiv (x : Int) 10) = ((x / 10 : Nat) : Int) := by rw [tdiv_pos (by omega), w64 (by omega) (by omega)]; omega
      simp only [laws_markText.l0, Option.bind_some]
      rw [if_pos (by omega), h1, if_pos (by omega), ht]
theorem mark_texts : ∃ mt : Nat → ByteArray, ∀ x : Nat, 1 ≤ x → x ≤ 5000 → Evt (fun k => laws_markText.f k (x : Int)) (mt x) := by
  have h : ∀ x : Nat, ∃ r, 1 ≤ x → x ≤ 5000 → Evt (fun k => laws_markText.f k (x : Int)) r := by
    intro x
    by_cases hx : 1 ≤ x ∧ x ≤ 5000
    · obtain ⟨r, hr⟩ := mark_text x x (Nat.le_refl _) (⟨#[]⟩ : ByteArray) (by show 0 + x ≤ 100000; omega)
      refine ⟨r, fun _ _ => ?_⟩
      unfold laws_markText.f
      simp only [if_neg (show ¬ (x : Int) ≤ 0 by omega)]
      exact hr
    · exact ⟨ByteArray.empty, fun h1 h2 => absurd ⟨h1, h2⟩ hx⟩
  exact ⟨fun x => Classical.choose (h x), fun x => Classical.choose_spec (h x)⟩
section
variable {mt : Nat → ByteArray} (hmt : ∀ x : Nat, 1 ≤ x → x ≤ 5000 → Evt (fun k => laws_markText.f k (x : Int)) (mt x)) (l : List SL) (hl : l.length ≤ 600)
/-- The marks. -/
def mkL (mt : Nat → ByteArray) (n : Nat) : List SL := (List.range n).map fun i => ⟨mt (1 + 2 * i), (2 + 2 * i : Nat)⟩
theorem mkL_len (n : Nat) : (mkL mt n).length = n := by simp [mkL]
theorem mkL_get (n i : Nat) (h : i < n) : (mkL mt n)[i]'(by rw [mkL_len]; exact h) = ⟨mt (1 + 2 * i), (2 + 2 * i : Nat)⟩ := by simp [mkL]
include hmt hl in
theorem mark_is : ∀ d i : Nat, i + d = l.length → Evt (fun k => laws_markLabelAtS.l0 k (mkL mt i ++ l.drop i) ((1 + 2 * i : Nat) : Int) (i : Int)) (((1 + 2 * l.length : Nat) : Int), mkL mt l.length) := by
  intro d
  induction d with
  | zero =>
    intro i hi
    obtain rfl : i = l.length := by omega
    refine ev_end fun k => ?_
    simp only [laws_markLabelAtS.l0]
    rw [List.drop_length, List.append_nil, mkL_len, if_neg (by omega)]
  | succ d ih =>
    intro i hi
    have hlt : i < l.length := by omega
    have hlen : (mkL mt i ++ l.drop i).length = l.length := by rw [List.length_append, mkL_len, List.length_drop]; omega
    have hd : l.drop i = l[i] :: l.drop (i + 1) := List.drop_eq_getElem_cons hlt
    have h1 := ih (i + 1) (by omega)
    have hm := hmt (1 + 2 * i) (by omega) (by omega)
    refine ev_step (g := fun k => (laws_markText.f k ((1 + 2 * i : Nat) : Int)).bind fun t => laws_markLabelAtS.l0 k (mkL mt i ++ ⟨t, ((2 + 2 * i : Nat) : Int)⟩ :: l.drop (i + 1)) ((1 + 2 * (i + 1) : Nat) : Int) ((i + 1 : Nat) : Int)) (fun k => ?_) (ev_bind hm ?_)
    · simp only [laws_markLabelAtS.l0]
      rw [hlen, if_pos (by omega)]
      congr 1
      funext t
      have w1 : wrap64 (((1 + 2 * i : Nat) : Int) + 1) = ((2 + 2 * i : Nat) : Int) := by rw [w64 (by omega) (by omega)]; omega
      have w2 : wrap64 (((2 + 2 * i : Nat) : Int) + 1) = ((1 + 2 * (i + 1) : Nat) : Int) := by rw [w64 (by omega) (by omega)]; omega
      have w3 : wrap64 ((i : Int) + 1) = ((i + 1 : Nat) : Int) := by rw [w64 (by omega) (by omega)]; omega
      have hset : ∀ (x y : SL), (mkL mt i ++ x :: l.drop (i + 1)).set i y = mkL mt i ++ y :: l.drop (i + 1) := by
        intro x y
        rw [List.set_append, if_neg (by rw [mkL_len]; omega), mkL_len, Nat.sub_self]; rfl
      have hget : ∀ x : SL, rd_T67 (mkL mt i ++ x :: l.drop (i + 1)) (i : Int) = x := by
        intro x
        rw [rdL _ i (by rw [List.length_append, mkL_len, List.length_cons]; omega), List.getElem_append_right (by rw [mkL_len]; omega)]
        simp [mkL_len]
      rw [if_pos (by omega), Option.bind_some, w1, w2, w3, Int.toNat_natCast, hd, hset, hset, hget]
    · have e : mkL mt (i + 1) ++ l.drop (i + 1) = mkL mt i ++ ⟨mt (1 + 2 * i), ((2 + 2 * i : Nat) : Int)⟩ :: l.drop (i + 1) := by
        unfold mkL
        rw [List.range_succ, List.map_append, List.append_assoc]; rfl
      rw [← e]; exact h1
include hmt in
theorem held_is (n : Nat) (hn : n ≤ 600) : ∀ d i : Nat, i + d = n → Evt (fun k => laws_heldLabelAtS.l0 k (mkL mt n) ((1 + 2 * i : Nat) : Int) (i : Int)) ((1 + 2 * n : Nat) : Int) := by
  intro d
  induction d with
  | zero =>
    intro i hi
    obtain rfl : i = n := by omega
    refine ev_end fun k => ?_
    simp only [laws_heldLabelAtS.l0]
    rw [mkL_len, if_neg (by omega)]
  | succ d ih =>
    intro i hi
    have hlt : i < n := by omega
    have hm := hmt (1 + 2 * i) (by omega) (by omega)
    have h1 := ih (i + 1) (by omega)
    have hr : rd_T67 (mkL mt n) (i : Int) = ⟨mt (1 + 2 * i), ((2 + 2 * i : Nat) : Int)⟩ := by rw [rdL _ i (by rw [mkL_len]; exact hlt), mkL_get n i hlt]
    have w1 : wrap64 (((1 + 2 * i : Nat) : Int) + 1) = ((2 + 2 * i : Nat) : Int) := by rw [w64 (by omega) (by omega)]; omega
    have w2 : wrap64 (((2 + 2 * i : Nat) : Int) + 1) = ((1 + 2 * (i + 1) : Nat) : Int) := by rw [w64 (by omega) (by omega)]; omega
    have w3 : wrap64 ((i : Int) + 1) = ((i + 1 : Nat) : Int) := by rw [w64 (by omega) (by omega)]; omega
    refine ev_step (g := fun k => (laws_markText.f k ((1 + 2 * i : Nat) : Int)).bind fun t => if (mt (1 + 2 * i)).toList = t.toList then laws_heldLabelAtS.l0 k (mkL mt n) ((1 + 2 * (i + 1) : Nat) : Int) ((i + 1 : Nat) : Int) else some (-1)) (fun k => ?_) (ev_bind hm ?_)
    · simp only [laws_heldLabelAtS.l0]
      rw [mkL_len, if_pos (by omega), if_pos (by omega), hr, w1, w2, w3]
      simp only [if_true]
    · simp only [if_true]; exact h1
theorem eqL_is : ∀ d i : Nat, i + d = l.length → l.length ≤ 600 → Evt (fun k => laws_eqLabelAtS.l0 k l l (i : Int)) true := by
  intro d
  induction d with
  | zero =>
    intro i hi hl
    refine ev_end fun k => ?_
    simp only [laws_eqLabelAtS.l0]
    rw [if_neg (by omega)]
  | succ d ih =>
    intro i hi hl
    refine ev_step (fun k => ?_) (ih (i + 1) (by omega) hl)
    simp only [laws_eqLabelAtS.l0, laws_eqLabelAt.f, if_true, Option.bind_some]
    rw [if_pos (by omega), if_pos (by omega), if_pos (by omega), w64 (by omega) (by omega)]; rfl
end
theorem lab_whole (s : ByteArray) (hs : s.size ≤ 9223372036854775807) : Evt (fun k => laws_FnExactLabelsOf.f k s) true := by
  unfold laws_FnExactLabelsOf.f
  by_cases hbig : (s.size : Int) > 1048576
  · simp only [if_pos hbig]; exact ev_of fun _ => rfl
  · simp only [if_neg hbig]
    obtain ⟨r, hr, h1, h2⟩ := labels_both s hs
    obtain ⟨mt, hmt⟩ := mark_texts
    have he : Evt (fun k => laws_eqLabelAtS.f k r r) true := by
      unfold laws_eqLabelAtS.f
      simp only [if_true]
      exact eqL_is r r.length 0 (by omega) hr
    have hm : Evt (fun k => laws_markLabelAtS.f k r 1) (((1 + 2 * r.length : Nat) : Int), mkL mt r.length) := by
      have := mark_is hmt r hr r.length 0 (by omega)
      exact this
    have hh : Evt (fun k => laws_heldLabelAtS.f k (mkL mt r.length) 1) ((1 + 2 * r.length : Nat) : Int) := by
      have := held_is hmt r.length hr r.length 0 (by omega)
      exact this
    refine ev_bind h1 ?_
    simp only [h2, Option.bind_some]
    refine ev_bind he ?_
    simp only [if_true]
    refine ev_bind hm ?_
    refine ev_bind hh ?_
    simp only [if_neg (show ¬ ((1 + 2 * r.length : Nat) : Int) < 0 by omega), if_true]
    refine ev_bind he ?_
    simp only [if_true]
    refine ev_bind hh (ev_of fun _ => ?_)
    rw [if_neg (show ¬ ((1 + 2 * r.length : Nat) : Int) < 0 by omega), if_pos rfl]
end Go.Proofs.YtaophlekfepkgaaGreatDoor.PFnExactLabelsOf
namespace Go.Proofs.YtaophlekfepkgaaGreatDoor.Pure
open Go.RowKit Go.Proofs.YtaophlekfepkgaaGreatDoor.PFnExactLabelsOf Go.Proofs.YtaophlekfepkgaaGreatDoorW.PrintWords Go.Proofs.YtaophlekfepkgaaGreatDoorW.PrintLast Go.Proofs.YtaophlekfepkgaaGreatDoor.Lem
theorem FnExactLabelsOf : laws_FnExactLabelsOf.Pure := by
  intro s hs
  obtain ⟨K, hK⟩ := lab_whole s (by omega)
  exact ⟨K, hK K (Nat.le_refl K)⟩

end Go.Proofs.YtaophlekfepkgaaGreatDoor.Pure

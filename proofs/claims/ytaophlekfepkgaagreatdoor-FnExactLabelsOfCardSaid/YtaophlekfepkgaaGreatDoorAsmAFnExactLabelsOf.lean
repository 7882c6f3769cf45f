/- The lines of a text, in the reference and in the program, over the print of the law FnExactLabelsOf. -/
import Derived.Test.YtaophlekfepkgaaGreatDoorLineCFnExactLabelsOf
import Derived.Test.YtaophlekfepkgaaGreatDoorSplitN
namespace Go.Proofs.YtaophlekfepkgaaGreatDoor.PFnExactLabelsOf
open Go.RowKit Go.Proofs.YtaophlekfepkgaaGreatDoorW.PrintWords Go.Proofs.YtaophlekfepkgaaGreatDoorW.PrintLast Go.Proofs.YtaophlekfepkgaaGreatDoor.Lem

theorem glueN_nil (l : List UInt8) : glue [] (SplitN.sp l) = SplitN.sp l := by
  obtain ⟨x, t, e⟩ := SplitN.sp_cons l
  rw [e]; rfl
theorem glueN_pre (a : List UInt8) (c : UInt8) (l : List UInt8) : glue a (SplitN.pre c (SplitN.sp l)) = glue (a ++ [c]) (SplitN.sp l) := by
  obtain ⟨x, t, e⟩ := SplitN.sp_cons l
  rw [e]; simp [glue, SplitN.pre]
def linesOut (l : List ByteArray) : List ByteArray × Bool := if (l.length : Int) > 600 then ([], false) else (l, true)
theorem lines_loop (s : ByteArray) (hs : s.size ≤ 20000) : ∀ d i : Nat, i + d = s.size → ∀ (o : List ByteArray) (f : Nat), f ≤ i → o.length ≤ f →
    Evt (fun k => spec_l01Lines.l0 k s o f i) (linesOut (o ++ ((glue ((s.data.toList.drop f).take (i - f)) (SplitN.sp (s.data.toList.drop i))).dropLast).map bs)) := by
  have hsz : s.size = s.data.toList.length := by rw [Array.length_toList]; rfl
  intro d
  induction d with
  | zero =>
    intro i hi o f hf ho
    refine ev_end fun k => ?_
    simp only [spec_l01Lines.l0]
    rw [if_neg (by omega), show s.data.toList.drop i = [] from List.drop_eq_nil_of_le (by omega)]
    simp only [SplitN.sp, glue, List.append_nil, List.map_nil, List.dropLast_singleton]
    unfold linesOut
    split <;> rfl
  | succ d ih =>
    intro i hi o f hf ho
    have hlt : i < s.data.toList.length := by omega
    have hb := bt_at s i hlt
    rw [List.drop_eq_getElem_cons hlt]
    by_cases hc : s.data.toList[i] = 10
    · have h1 := ih (i + 1) (by omega) (o ++ [s.extract f i]) (i + 1) (by omega) (by simp; omega)
      rw [Nat.sub_self, List.take_zero, glueN_nil] at h1
      have e : (o ++ [s.extract f i]) ++ ((SplitN.sp (s.data.toList.drop (i + 1))).dropLast).map bs = o ++ ((glue ((s.data.toList.drop f).take (i - f)) (SplitN.sp (s.data.toList[i] :: s.data.toList.drop (i + 1)))).dropLast).map bs := by
        rw [SplitN.sp, if_pos hc, glue, List.append_nil, ext_bs, List.append_assoc]
        obtain ⟨x, t, e⟩ := SplitN.sp_cons (s.data.toList.drop (i + 1))
        rw [e]; rfl
      rw [e] at h1
      refine ev_step (fun k => ?_) h1
      simp only [spec_l01Lines.l0]
      rw [if_pos (by omega), if_pos (by omega), hb, hc, if_pos (by decide), if_pos (by omega), if_pos (by omega), if_pos (by omega), if_pos (by omega), w64 (by omega) (by omega), Int.toNat_natCast, Int.toNat_natCast]
      rfl
    · have h1 := ih (i + 1) (by omega) o f (by omega) ho
      have e : glue ((s.data.toList.drop f).take (i + 1 - f)) (SplitN.sp (s.data.toList.drop (i + 1))) = glue ((s.data.toList.drop f).take (i - f)) (SplitN.sp (s.data.toList[i] :: s.data.toList.drop (i + 1))) := by
        rw [SplitN.sp, if_neg hc, glueN_pre]
        congr 1
        rw [show i + 1 - f = (i - f) + 1 by omega, List.take_succ_eq_append_getElem (by rw [List.length_drop]; omega)]
        congr 2
        rw [List.getElem_drop]; congr 1; omega
      rw [e] at h1
      refine ev_step (fun k => ?_) h1
      simp only [spec_l01Lines.l0]
      have hne : ¬ ((s.data.toList[i]).toNat : Int) = 10 := by
        intro h
        apply hc
        apply UInt8.toNat_inj.1
        have : (10 : UInt8).toNat = 10 := rfl
        omega
      rw [if_pos (by omega), if_pos (by omega), hb, if_neg hne, w64 (by omega) (by omega)]
      rfl
theorem ends_is (s : ByteArray) : impl_assemble.ends s = (s.data.toList.getLast? == some 10) := by
  unfold impl_assemble.ends Lib.hasSuffix
  rw [show (⟨#[10]⟩ : ByteArray).data.toList = [10] from rfl]
  have key : ∀ l : List UInt8, ([10] : List UInt8).isSuffixOf l = (l.getLast? == some 10) := by
    intro l
    rcases List.eq_nil_or_concat l with rfl | ⟨a, c, rfl⟩
    · rfl
    · rw [List.concat_eq_append, List.getLast?_concat]
      by_cases h : c = 10
      · subst h
        rw [List.isSuffixOf_iff_suffix.2 (by simp)]; rfl
      · have h1 : ([10] : List UInt8).isSuffixOf (a ++ [c]) = false := by
          rw [Bool.eq_false_iff]
          intro e
          obtain ⟨t, ht⟩ := List.isSuffixOf_iff_suffix.1 e
          have := (List.append_inj' ht rfl).2
          injection this with h2
          exact h h2.symm
        rw [h1]; simp [h]
  exact key _
theorem lines_sp (s : ByteArray) : impl_assemble.lines s = ((SplitN.sp s.data.toList).dropLast).map bs := by
  unfold impl_assemble.lines impl_assemble.pieces
  rw [SplitN.split_sp, List.map_dropLast]; rfl
/-- The lines, in the reference. -/
theorem lines_is (s : ByteArray) (hs : s.size ≤ 9223372036854775807) : Evt (fun k => spec_l01Lines.f k s) (if impl_assemble.fit s = true ∧ (impl_assemble.lines s).length ≤ 600 then (impl_assemble.lines s, true) else ([], false)) := by
  have hsz : s.size = s.data.toList.length := by rw [Array.length_toList]; rfl
  have hbad : impl_assemble.fit s = false → Evt (fun k => spec_l01Lines.j0 k s true) (if impl_assemble.fit s = true ∧ (impl_assemble.lines s).length ≤ 600 then (impl_assemble.lines s, true) else ([], false)) := by
    intro hf
    rw [if_neg (by rw [hf]; simp)]
    exact ev_end fun k => by simp only [spec_l01Lines.j0]; rfl
  have hgood : s.size ≤ 20000 → impl_assemble.fit s = true → Evt (fun k => spec_l01Lines.j0 k s false) (if impl_assemble.fit s = true ∧ (impl_assemble.lines s).length ≤ 600 then (impl_assemble.lines s, true) else ([], false)) := by
    intro h2 hf
    have h1 := lines_loop s h2 s.size 0 (by omega) [] 0 (by omega) (by simp)
    simp only [Nat.sub_zero, List.take_zero, List.drop_zero, List.nil_append, glueN_nil] at h1
    rw [← lines_sp] at h1
    have e : linesOut (impl_assemble.lines s) = (if impl_assemble.fit s = true ∧ (impl_assemble.lines s).length ≤ 600 then (impl_assemble.lines s, true) else ([], false)) := by
      unfold linesOut
      by_cases h3 : (impl_assemble.lines s).length ≤ 600
      · rw [if_neg (by omega), if_pos ⟨hf, h3⟩]
      · rw [if_pos (by omega), if_neg (fun h => h3 h.2)]
    rw [e] at h1
    exact ev_step (fun k => by simp only [spec_l01Lines.j0]; rfl) h1
  unfold spec_l01Lines.f
  by_cases h1 : (s.size : Int) > 20000
  · simp only [if_pos h1]
    refine hbad ?_
    unfold impl_assemble.fit
    rw [decide_eq_false (by omega), Bool.false_and]
  · simp only [if_neg h1]
    by_cases h2 : (s.size : Int) > 0
    · have hw : wrap64 ((s.size : Int) - 1) = ((s.size - 1 : Nat) : Int) := by rw [w64 (by omega) (by omega)]; omega
      simp only [if_pos h2, hw]
      simp only [if_pos (show (0 : Int) ≤ ((s.size - 1 : Nat) : Int) by omega), if_pos (show ((s.size - 1 : Nat) : Int) < (s.size : Int) by omega)]
      rw [bt_at s (s.size - 1) (by omega)]
      have hl : s.data.toList.getLast? = some s.data.toList[s.size - 1] := by
        rw [List.getLast?_eq_getElem?, show s.data.toList.length - 1 = s.size - 1 by omega]; exact List.getElem?_eq_getElem _
      have hne : s.toList.isEmpty = false := by
        rw [ByteArray.toList_eq]
        cases hh : s.data.toList with
        | nil => rw [hh, List.length_nil] at hsz; omega
        | cons _ _ => rfl
      have hfit : impl_assemble.fit s = (s.data.toList[s.size - 1] == 10) := by
        unfold impl_assemble.fit
        rw [decide_eq_true (by omega), Bool.true_and, hne, Bool.false_or, ends_is, hl]; rfl
      have hbq : ((((s.data.toList[s.size - 1]).toNat : Nat) : Int) != 10) = !(s.data.toList[s.size - 1] == 10) := by
        generalize s.data.toList[s.size - 1] = c
        by_cases h : c = 10
        · subst h; rfl
        · have h3 : ¬ ((c.toNat : Nat) : Int) = 10 := by
            intro h4
            apply h
            apply UInt8.toNat_inj.1
            have : (10 : UInt8).toNat = 10 := rfl
            omega
          rw [bne_iff_ne.2 h3, beq_eq_false_iff_ne.2 h]; rfl
      rw [hbq, ← hfit]
      cases hf : impl_assemble.fit s with
      | true => have := hgood (by omega) hf; rw [hf] at this; exact this
      | false => have := hbad hf; rw [hf] at this; exact this
    · simp only [if_neg h2]
      refine hgood (by omega) ?_
      unfold impl_assemble.fit
      have : s.toList.isEmpty = true := by
        rw [ByteArray.toList_eq]
        cases hh : s.data.toList with
        | nil => rfl
        | cons _ _ => rw [hh, List.length_cons] at hsz; omega
      rw [decide_eq_true (by omega), this]; rfl

end Go.Proofs.YtaophlekfepkgaaGreatDoor.PFnExactLabelsOf

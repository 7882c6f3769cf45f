/- A whole line, in the reference and in the program, over the print of the law FnExactLabelsOf. -/
import Derived.Test.YtaophlekfepkgaaGreatDoorLineBFnExactLabelsOf
namespace Go.Proofs.YtaophlekfepkgaaGreatDoor.PFnExactLabelsOf
open Go.RowKit Go.Proofs.YtaophlekfepkgaaGreatDoorW.PrintWords Go.Proofs.YtaophlekfepkgaaGreatDoorW.PrintLast Go.Proofs.YtaophlekfepkgaaGreatDoor.Lem Go.Proofs.YtaophlekfepkgaaGreatDoor.SplitL

theorem sx_is (w : ByteArray) : impl_readLine.sx w = (w.data.toList.getLast? == some 58) := by
  unfold impl_readLine.sx Lib.hasSuffix
  rw [show (⟨#[58]⟩ : ByteArray).data.toList = [58] from rfl]
  have key : ∀ l : List UInt8, ([58] : List UInt8).isSuffixOf l = (l.getLast? == some 58) := by
    intro l
    rcases List.eq_nil_or_concat l with rfl | ⟨a, c, rfl⟩
    · rfl
    · rw [List.concat_eq_append, List.getLast?_concat]
      by_cases h : c = 58
      · subst h
        rw [List.isSuffixOf_iff_suffix.2 (by simp)]; rfl
      · have h1 : ([58] : List UInt8).isSuffixOf (a ++ [c]) = false := by
          rw [Bool.eq_false_iff]
          intro e
          obtain ⟨t, ht⟩ := List.isSuffixOf_iff_suffix.1 e
          have := (List.append_inj' ht rfl).2
          injection this with h2
          exact h h2.symm
        rw [h1]; simp [h]
  exact key _
theorem nm_is (l : List UInt8) : impl_readLine.nm (bs (l ++ [58])) = bs l := by
  unfold impl_readLine.nm bs
  congr 2
  unfold Lib.trimSuffix Lib.hasSuffix
  rw [show (⟨#[58]⟩ : ByteArray).data.toList = [58] from rfl]
  rw [if_pos (List.isSuffixOf_iff_suffix.2 (by simp))]
  simp
theorem names_no_colon : ∀ n : Fin 33, (Tab.nm n.val).data.toList.getLast? ≠ some 58 := by decide +kernel
/-- What a whole line is. -/
theorem line_both (s : ByteArray) (hs : s.size ≤ 80) : ∃ r : RL, Evt (fun k => spec_ReadLine.f k s) r ∧ impl_readLine.f s = some r := by
  have hsz : s.size = s.data.toList.length := by rw [Array.length_toList]; rfl
  obtain ⟨l0, lt, hsp⟩ := sp_cons s.data.toList
  have hw : ∀ w ∈ (sp s.data.toList).map bs, w.size ≤ 80 := by
    intro w hw
    obtain ⟨x, hx, rfl⟩ := List.mem_map.1 hw
    have := pieces_len s.data.toList x hx
    rw [bs_size]; omega
  have hlen : (sp s.data.toList).length ≤ 81 := by
    have : ∀ l : List UInt8, (sp l).length ≤ l.length + 1 := by
      intro l
      induction l with
      | nil => simp [sp]
      | cons c r ih =>
        unfold sp
        split
        · simp; omega
        · obtain ⟨x, t, e⟩ := sp_cons r
          rw [e] at ih ⊢; simp [pre] at ih ⊢; omega
    have := this s.data.toList; omega
  have hspl := split_is s (by omega)
  rw [hsp] at hspl hw hlen
  rw [List.map_cons] at hspl hw
  rw [List.length_cons] at hlen
  have himp : impl_readLine.f s = impl_readLine.f1 200 (bs l0) (lt.map bs) := by
    unfold impl_readLine.f impl_readLine.f0
    rw [if_pos hs, ws_is, hsp]; rfl
  obtain ⟨r, g1, g2⟩ := go_both (bs l0) (lt.map bs) hw (by simp; omega)
  have hl0 := hw (bs l0) (by simp)
  have h0 : rdOf ByteArray.empty (bs l0 :: lt.map bs) 0 = bs l0 := rfl
  have hlc : (((bs l0 :: lt.map bs).length : Nat) : Int) = (lt.length : Int) + 1 := by simp
  have start : ∀ r : RL, (Evt (fun k => (if (lt.length : Int) + 1 = 1 then (if ((bs l0).size : Int) > 1 then (spec_ReadLine.j0 k (bs l0 :: lt.map bs) ((bt (bs l0) (((bs l0).size : Int) - 1)) == 58) 0 0 0 0 0 0 0 E0) else (spec_ReadLine.j0 k (bs l0 :: lt.map bs) false 0 0 0 0 0 0 0 E0)) else (spec_ReadLine.j0 k (bs l0 :: lt.map bs) false 0 0 0 0 0 0 0 E0))) r) → Evt (fun k => spec_ReadLine.f k s) r := by
    intro r hr
    unfold spec_ReadLine.f
    simp only [if_neg (show ¬ (s.size : Int) > 80 by omega)]
    refine ev_bind hspl ?_
    simp only [hlc, h0]
    obtain ⟨K, hK⟩ := hr
    refine ⟨K, fun k hk => ?_⟩
    rw [← hK k hk]
    dsimp only
    by_cases h1 : (lt.length : Int) + 1 = 1
    · rw [if_pos h1, if_pos h1, if_pos (by omega)]
      by_cases h2 : ((bs l0).size : Int) > 1
      · rw [if_pos h2, if_pos h2, w64 (by omega) (by omega), if_pos (by omega), if_pos (by omega)]
      · rw [if_neg h2, if_neg h2]
    · rw [if_neg h1, if_neg h1]
  rw [himp]
  unfold impl_readLine.f1
  by_cases hn : lt = []
  case neg =>
    have hn1 : ¬ (lt.length : Int) + 1 = 1 := by have := List.length_pos_iff.2 hn; omega
    refine ⟨r, start r (by simp only [if_neg hn1]; exact g1), ?_⟩
    rw [if_neg (show ¬ lt.map bs = [] by simpa using hn), g2]
    simp
  subst hn
  rw [List.map_nil] at *
  have hn1 : (([] : List (List UInt8)).length : Int) + 1 = 1 := rfl
  rw [sx_is, data_bs]
  simp only [if_true]
  by_cases hlast : l0.getLast? = some 58
  · obtain ⟨a, rfl⟩ : ∃ a, l0 = a ++ [58] := by
      rcases List.eq_nil_or_concat l0 with rfl | ⟨a, c, rfl⟩
      · simp at hlast
      · rw [List.concat_eq_append] at hlast ⊢
        simp at hlast
        exact ⟨a, by rw [hlast]⟩
    have hsa : (bs (a ++ [58])).size = a.length + 1 := by rw [bs_size]; simp
    have hsa2 : (bs a).size = a.length := bs_size a
    obtain ⟨l, l1, l2, l3⟩ := lab_both (bs a) (by omega) 200 (by omega)
    rw [if_pos (by rw [hlast]; rfl), nm_is, l2]
    simp only [Option.bind_some]
    by_cases ha : a = []
    · have hl : l = false := by
        cases l with
        | false => rfl
        | true => have := (l3 rfl).1; rw [hsa2, ha] at this; simp at this
      subst hl
      refine ⟨r, start r ?_, ?_⟩
      · simp only [if_pos hn1]
        simp only [if_neg (show ¬ ((bs (a ++ [58])).size : Int) > 1 by rw [hsa, ha]; simp)]
        exact g1
      · rw [if_neg (by simp)]; exact g2
    · have hal := List.length_pos_iff.2 ha
      have hb : bt (bs (a ++ [58])) (((bs (a ++ [58])).size : Int) - 1) = 58 := by
        rw [hsa, show (((a.length + 1 : Nat) : Int) - 1) = ((a.length : Nat) : Int) by omega]
        rw [bt_at (bs (a ++ [58])) a.length (by rw [data_bs]; simp)]
        simp only [data_bs]
        simp
      have hj : ∀ r : RL, Evt (fun k => spec_ReadLine.j0 k [bs (a ++ [58])] true 0 0 0 0 0 0 0 E0) r → Evt (fun k => spec_ReadLine.f k s) r := by
        intro r hr
        refine start r ?_
        simp only [if_pos hn1]
        simp only [if_pos (show ((bs (a ++ [58])).size : Int) > 1 by omega), hb]
        exact hr
      have hext : (bs (a ++ [58])).extract 0 (((a.length : Int)) : Int).toNat = bs a := by
        rw [ext_bs, data_bs]; simp
      have hj0 : Evt (fun k => spec_ReadLine.j0 k [bs (a ++ [58])] true 0 0 0 0 0 0 0 E0) (if l = true then ((1, 0, 0, 0, 0, 0, 0, bs a) : RL) else impl_readLine.nil_) := by
        refine ev_step (g := fun k => (spec_LabelOk.f k (bs a)).bind fun t163 => (if t163 = true then (some ((1, 0, 0, 0, 0, 0, 0, bs a) : RL)) else (some impl_readLine.nil_))) (fun k => ?_) (ev_bind l1 (ev_of fun k => by cases l <;> rfl))
        simp only [spec_ReadLine.j0, if_true]
        rw [if_pos (by simp), show rdOf ByteArray.empty [bs (a ++ [58])] 0 = bs (a ++ [58]) from rfl, w64 (by omega) (by omega), show ((bs (a ++ [58])).size : Int) - 1 = (a.length : Int) by omega, if_pos (by omega), if_pos (by omega), hext]
        rfl
      refine ⟨_, hj _ hj0, ?_⟩
      cases l with
      | true => rfl
      | false =>
        rw [if_neg (by simp), if_neg (by simp)]
        unfold impl_readLine.go
        have hne : ¬ (bs (a ++ [58])).toList = ([46, 119, 111, 114, 100] : List UInt8) := by
          rw [bs_toList]; intro e
          have := congrArg List.getLast? e
          simp at this
        rw [if_neg hne]
        have hi : Lib.idxOfS ((List.range 33).map Tab.nm) (bs (a ++ [58])) = -1 := by
          refine idx_none _ _ 0 fun y hy => ?_
          obtain ⟨n, hn2, rfl⟩ := List.mem_map.1 hy
          intro e
          refine names_no_colon ⟨n, by simpa using hn2⟩ ?_
          show (Tab.nm n).data.toList.getLast? = some 58
          rw [e, data_bs]; simp
        rw [hi, form_none]
        rfl
  · have hlb : (l0.getLast? == some 58) = false := by simpa using hlast
    refine ⟨r, start r ?_, ?_⟩
    · simp only [if_pos hn1]
      by_cases h2 : ((bs l0).size : Int) > 1
      · simp only [if_pos h2]
        have hb : (bt (bs l0) (((bs l0).size : Int) - 1) == 58) = false := by
          rw [bs_size] at h2 ⊢
          rw [show (((l0.length : Nat) : Int) - 1) = ((l0.length - 1 : Nat) : Int) by omega, bt_at (bs l0) (l0.length - 1) (by rw [data_bs]; omega)]
          simp only [data_bs]
          rw [Bool.eq_false_iff]
          intro e
          have e1 := beq_iff_eq.1 e
          apply hlast
          rw [List.getLast?_eq_getElem?, List.getElem?_eq_getElem (by omega)]
          congr 1
          apply UInt8.toNat_inj.1
          have : (58 : UInt8).toNat = 58 := rfl
          omega
        rw [hb]; exact g1
      · simp only [if_neg h2]; exact g1
    · rw [hlb, if_neg (by simp)]; exact g2
end Go.Proofs.YtaophlekfepkgaaGreatDoor.PFnExactLabelsOf

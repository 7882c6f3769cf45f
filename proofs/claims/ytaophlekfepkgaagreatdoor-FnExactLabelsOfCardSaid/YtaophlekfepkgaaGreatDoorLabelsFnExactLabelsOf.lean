/- The labels of a text, in the reference and in the program, over the print of the law FnExactLabelsOf. -/
import Derived.Test.YtaophlekfepkgaaGreatDoorAsmDFnExactLabelsOf
namespace Go.Proofs.YtaophlekfepkgaaGreatDoor.PFnExactLabelsOf
open Go.RowKit Go.Proofs.YtaophlekfepkgaaGreatDoorW.PrintWords Go.Proofs.YtaophlekfepkgaaGreatDoorW.PrintLast Go.Proofs.YtaophlekfepkgaaGreatDoor.Lem

abbrev SL := S67
def nmL (x : SL) : List UInt8 := x.f0.data.toList
/-- The program's labels are those of the first pass. -/
theorem labs_is : ∀ (xs : List ByteArray) (i n : Nat) (lb : LB), (p1 (xs.map rOf) i n lb).2.1 = 0 → impl_LabelsOf.labs xs n (toS lb) = some (toS (p1 (xs.map rOf) i n lb).1)
  | [], _, _, _, _ => rfl
  | x :: t, i, n, lb, h => by
    rw [List.map_cons] at h ⊢
    have hr := rOf_impl x
    unfold impl_LabelsOf.labs
    unfold p1 at h ⊢
    by_cases k0 : (rOf x).1 = 0
    · rw [if_pos k0] at h; exact ne_of 2 0 (by decide) h
    · rw [if_neg k0] at h ⊢
      have hf : impl_readLine.f x = some (rOf x) := by
        unfold impl_assemble.rd at hr
        split at hr
        · exact hr
        · exfalso; apply k0; rw [← Option.some.inj hr]; rfl
      rw [hf, Option.bind_some]
      by_cases k1 : (rOf x).1 = 1
      · rw [if_pos k1] at h ⊢
        rw [if_pos k1]
        split at h
        · exact ne_of 3 0 (by decide) h
        · rename_i hs
          rw [if_neg hs, ← toS_append]
          exact labs_is t (i + 1) n _ h
      · rw [if_neg k1] at h ⊢
        rw [if_neg k1]
        split at h
        · exact ne_of 4 0 (by decide) h
        · rename_i hs
          rw [if_neg hs]
          exact labs_is t (i + 1) (n + 1) lb h
theorem find_none {lb : LB} {s : ByteArray} (h : impl_assemble.find lb s = none) : ∀ p ∈ lb, p.1 ≠ s := by
  induction lb with
  | nil => simp
  | cons q t ih =>
    unfold impl_assemble.find at h
    split at h
    · cases h
    · rename_i hq
      intro p hp
      rcases List.mem_cons.1 hp with rfl | hp
      · exact hq
      · exact ih h p hp
theorem p1_nodup : ∀ (rs : List RL) (i n : Nat) (lb : LB), (lb.map (·.1)).Nodup → ((p1 rs i n lb).1.map (·.1)).Nodup ∧ (p1 rs i n lb).1.length ≤ lb.length + rs.length
  | [], _, _, _, h => ⟨h, by simp [p1]⟩
  | r :: t, i, n, lb, h => by
    unfold p1
    split
    · exact ⟨h, by simp⟩
    · split
      · split
        · exact ⟨h, by simp⟩
        · rename_i hs
          have hn : impl_assemble.find lb (RL.lab r) = none := by simpa using hs
          have := p1_nodup t (i + 1) n (lb ++ [(RL.lab r, (n : Int))]) (by
            rw [List.map_append, List.nodup_append]
            refine ⟨h, by simp, ?_⟩
            intro a ha b hb
            obtain ⟨p, hp, rfl⟩ := List.mem_map.1 ha
            simp at hb
            rw [hb]; exact find_none hn p hp)
          refine ⟨this.1, ?_⟩
          have h2 := this.2
          simp at h2 ⊢; omega
      · split
        · exact ⟨h, by simp⟩
        · have := p1_nodup t (i + 1) (n + 1) lb h
          refine ⟨this.1, ?_⟩
          have h2 := this.2
          simp at h2 ⊢; omega
/-- A list of labels, each name once. -/
structure Right1 (L : List SL) : Prop where
  nd : (L.map nmL).Nodup
  len : L.length ≤ 600
theorem data_inj {a b : ByteArray} (h : a.data.toList = b.data.toList) : a = b := ByteArray.ext (Array.toList_inj.1 h)
theorem toS_right {lb : LB} (h : (lb.map (·.1)).Nodup) (hl : lb.length ≤ 600) : Right1 (toS lb) := by
  refine ⟨?_, by unfold toS; simpa using hl⟩
  unfold toS
  rw [List.map_map]
  have : (lb.map (nmL ∘ fun p => (⟨p.1, p.2⟩ : SL))) = (lb.map (·.1)).map (fun s : ByteArray => s.data.toList) := by rw [List.map_map]; rfl
  rw [this]
  exact List.Pairwise.map _ (fun a b hab e => hab (data_inj e)) h
theorem sorted_gen (L : List SL) (h : Right1 L) (d : Array SL) (hp : Go.Sort.PermIn 0 L.length L.toArray d ∧ Go.Sort.SortedIn (ltOf impl_LabelsOf.cf) 0 L.length d) :
    d.toList.Perm L ∧ ∀ i j (hi : i < j) (hj : j < d.toList.length), nmL d.toList[i] < nmL d.toList[j] := by
  obtain ⟨⟨hsz, _, hperm⟩, hs⟩ := hp
  have hsz : d.size = L.length := by simpa using hsz
  have hperm : d.toList.Perm L := by
    have e1 : d.extract 0 L.length = d := by rw [← hsz]; simp
    have e2 : L.toArray.extract 0 L.length = L.toArray := by simp
    rw [e1, e2] at hperm
    simpa using hperm
  refine ⟨hperm, fun i j hi hj => ?_⟩
  have hj' : j < d.size := by simpa using hj
  have hlt := hs i j (Nat.zero_le _) hi (by omega)
  rw [getElem!_pos d i (by omega), getElem!_pos d j hj', impl_LabelsOf.lt_is] at hlt
  have hle : ¬ nmL d[j] < nmL d[i] := of_decide_eq_false hlt
  have hne : nmL d[i] ≠ nmL d[j] := by
    have hnd : (d.toList.map nmL).Nodup := (hperm.map nmL).nodup_iff.2 h.nd
    intro heq
    have := List.pairwise_iff_getElem.1 hnd i j (by simpa using (by omega : i < d.size)) (by simpa using hj') hi
    apply this
    simpa using heq
  have hle2 : nmL d[i] ≤ nmL d[j] := List.not_lt.1 hle
  show nmL d.toList[i] < nmL d.toList[j]
  simp only [Array.getElem_toList]
  rcases Classical.em (nmL d[i] < nmL d[j]) with h1 | h1
  · exact h1
  · exact absurd (List.le_antisymm hle2 (List.not_lt.1 h1)) hne
def Asc (R : List SL) : Prop := ∀ i j (hi : i < j) (hj : j < R.length), nmL R[i] < nmL R[j]
/-- The sorted list: the same labels, ascending by name. -/
theorem sorted_is (L : List SL) (h : Right1 L) : (impl_LabelsOf.sorted L).Perm L ∧ Asc (impl_LabelsOf.sorted L) := by
  by_cases h0 : L = []
  · subst h0
    have e : impl_LabelsOf.sorted [] = [] := rfl
    rw [e]; exact ⟨List.Perm.refl _, fun i j _ hj => absurd hj (Nat.not_lt_zero _)⟩
  · have hp := Go.Sort.pdq_sorts (ltOf impl_LabelsOf.cf) impl_LabelsOf.swo L.toArray 0 L.toArray.size (Lib.bitLen L.toArray.size) true true (Nat.zero_le _) (Nat.le_refl _) (Or.inl rfl)
    have e : L.toArray.size = L.length := by simp
    rw [e] at hp
    have es : impl_LabelsOf.sorted L = (Go.Sort.pdq (ltOf impl_LabelsOf.cf) L.toArray 0 L.length (Lib.bitLen L.length) true true).toList := by
      unfold impl_LabelsOf.sorted
      rw [if_neg h0]
    rw [es]
    exact sorted_gen L h _ hp
/-! ### The reference's choosing: the least name above the last one, again and again. -/
theorem less_is (a b : List UInt8) : (Op.bytesLess a b = true) ↔ a < b := by
  induction a generalizing b with
  | nil => cases b <;> simp [Op.bytesLess]
  | cons x a ih =>
    cases b with
    | nil => simp [Op.bytesLess]
    | cons y b =>
      simp only [Op.bytesLess, List.cons_lt_cons_iff]
      by_cases h1 : x < y
      · simp [h1]
      · by_cases h2 : x = y
        · subst h2; simp [ih]
        · simp [h1, h2]
section
variable (L R : List SL) (j : Nat)
/-- Label i is still to come where j were chosen. -/
def Cand (i : Nat) : Prop := ∃ h : i < L.length, (j = 0 ∨ ∃ h2 : j - 1 < R.length, nmL R[j - 1] < nmL L[i])
/-- What the scan has found ahead of label i. -/
def Best (b : Int) (i : Nat) : Prop := (b = -1 ∧ ∀ m, m < i → ¬ Cand L R j m) ∨ ∃ β : Nat, b = β ∧ β < i ∧ Cand L R j β ∧ ∃ hb : β < L.length, ∀ m, m < i → Cand L R j m → ∀ hm : m < L.length, ¬ nmL L[m] < nmL L[β]
end
theorem rdL (L : List SL) (i : Nat) (h : i < L.length) : rd_T67 L (i : Int) = L[i] := by
  unfold rd_T67
  rw [Int.toNat_natCast, List.getD_eq_getElem?_getD, List.getElem?_eq_getElem h]; rfl
theorem tl_nm (x : SL) : x.f0.toList = nmL x := ByteArray.toList_eq _
section
variable {L R : List SL} {j : Nat}
theorem best_take {b : Int} {i : Nat} (hb : Best L R j b i) (hi : i < L.length) (hc : Cand L R j i) (hlt : b = -1 ∨ ∃ β : Nat, ∃ h : β < L.length, b = β ∧ nmL L[i] < nmL L[β]) : Best L R j (i : Int) (i + 1) := by
  right
  refine ⟨i, rfl, by omega, hc, hi, fun m hm hcm hml => ?_⟩
  rcases Nat.lt_succ_iff_lt_or_eq.1 hm with hm | rfl
  · rcases hb with ⟨_, hb⟩ | ⟨β, rfl, hβ, _, hbl, hb⟩
    · exact absurd hcm (hb m hm)
    · rcases hlt with h | ⟨β', h', e, hlt⟩
      · omega
      · obtain rfl : β = β' := by omega
        intro hlt2
        exact hb m hm hcm hml (List.lt_trans hlt2 hlt)
  · exact List.lt_irrefl _
theorem best_keep {b : Int} {i : Nat} (hb : Best L R j b i) (hi : i < L.length) (hk : ¬ Cand L R j i ∨ ∃ β : Nat, ∃ h : β < L.length, b = β ∧ ¬ nmL L[i] < nmL L[β]) : Best L R j b (i + 1) := by
  rcases hb with ⟨e, hb⟩ | ⟨β, e, hβ, hcβ, hbl, hb⟩
  · left
    refine ⟨e, fun m hm => ?_⟩
    rcases Nat.lt_succ_iff_lt_or_eq.1 hm with hm | rfl
    · exact hb m hm
    · rcases hk with hk | ⟨β, _, e2, _⟩
      · exact hk
      · omega
  · right
    refine ⟨β, e, by omega, hcβ, hbl, fun m hm hcm hml => ?_⟩
    rcases Nat.lt_succ_iff_lt_or_eq.1 hm with hm | rfl
    · exact hb m hm hcm hml
    · rcases hk with hk | ⟨β', h', e2, hk⟩
      · exact absurd hcm hk
      · obtain rfl : β = β' := by omega
        exact hk
/-- The scan, to its end. -/
theorem scan_is (hL : L.length ≤ 600) (hj : j ≤ R.length) (hR : R.length = L.length) (Q : List SL) (hend : ∀ b : Int, Best L R j b L.length → Evt (fun k => spec_LabelsOf.l1 k L (R.take j) b (L.length : Int)) Q) :
    ∀ d i : Nat, i + d = L.length → ∀ b : Int, Best L R j b i → Evt (fun k => spec_LabelsOf.l1 k L (R.take j) b (i : Int)) Q := by
  intro d
  induction d with
  | zero =>
    intro i hi b hb
    obtain rfl : i = L.length := by omega
    exact hend b hb
  | succ d ih =>
    intro i hi b hb
    have hlt : i < L.length := by omega
    have hwi : wrap64 ((i : Int) + 1) = ((i + 1 : Nat) : Int) := by rw [w64 (by omega) (by omega)]; omega
    have hlen : (R.take j).length = j := by rw [List.length_take]; omega
    have c1 : (i : Int) < (L.length : Int) := by omega
    have c2 : 0 ≤ (i : Int) := by omega
    have hbb : b = -1 ∨ ∃ β : Nat, b = β ∧ β < L.length := by
      rcases hb with ⟨e, _⟩ | ⟨β, e, _, _, h, _⟩
      · exact .inl e
      · exact .inr ⟨β, e, h⟩
    -- label i stands above the last one
    have cand : Cand L R j i → Evt (fun k => if b < 0 then (spec_LabelsOf.l1 k L (R.take j) (i : Int) ((i + 1 : Nat) : Int)) else (if 0 ≤ b then (if b < (L.length : Int) then (if (Op.bytesLess (((rd_T67 L (i : Int)).f0).toList) (((rd_T67 L b).f0).toList)) = true then (spec_LabelsOf.l1 k L (R.take j) (i : Int) ((i + 1 : Nat) : Int)) else (spec_LabelsOf.l1 k L (R.take j) b ((i + 1 : Nat) : Int))) else (none)) else (none))) Q := by
      intro hc
      rcases hbb with rfl | ⟨β, rfl, hβ⟩
      · simp only [if_pos (show (-1 : Int) < 0 by omega)]
        exact ih (i + 1) (by omega) _ (best_take hb hlt hc (.inl rfl))
      · simp only [if_neg (show ¬ (β : Int) < 0 by omega), if_pos (show 0 ≤ (β : Int) by omega), if_pos (show (β : Int) < (L.length : Int) by omega), rdL L i hlt, rdL L β hβ, tl_nm]
        by_cases hl : nmL L[i] < nmL L[β]
        · simp only [if_pos ((less_is _ _).2 hl)]
          exact ih (i + 1) (by omega) _ (best_take hb hlt hc (.inr ⟨β, hβ, rfl, hl⟩))
        · simp only [if_neg (fun h => hl ((less_is _ _).1 h))]
          exact ih (i + 1) (by omega) _ (best_keep hb hlt (.inr ⟨β, hβ, rfl, hl⟩))
    by_cases h0 : j = 0
    · have hc : Cand L R j i := ⟨hlt, .inl h0⟩
      refine ev_step (fun k => ?_) (cand hc)
      simp only [spec_LabelsOf.l1]
      rw [hlen, hwi, if_pos c1, if_pos (show (j : Int) = 0 by omega), if_pos c2]
    · have hj1 : j - 1 < R.length := by omega
      have hjt : j - 1 < (R.take j).length := by omega
      have hwj : wrap64 ((j : Int) - 1) = ((j - 1 : Nat) : Int) := by rw [w64 (by omega) (by omega)]; omega
      have hrt : rd_T67 (R.take j) ((j - 1 : Nat) : Int) = R[j - 1] := by rw [rdL _ _ hjt, List.getElem_take]
      by_cases hl : nmL R[j - 1] < nmL L[i]
      · have hc : Cand L R j i := ⟨hlt, .inr ⟨hj1, hl⟩⟩
        refine ev_step (fun k => ?_) (cand hc)
        simp only [spec_LabelsOf.l1]
        rw [hlen, hwi, hwj, if_pos c1, if_neg (show ¬ (j : Int) = 0 by omega), if_pos c2, if_pos (show 0 ≤ ((j - 1 : Nat) : Int) by omega), if_pos (show ((j - 1 : Nat) : Int) < (j : Int) by omega), hrt, if_pos (by rw [tl_nm, rdL L i hlt, tl_nm]; exact (less_is _ _).2 hl)]
      · have hc : ¬ Cand L R j i := by
          rintro ⟨_, h | ⟨_, h⟩⟩
          · exact h0 h
          · exact hl h
        refine ev_step (fun k => ?_) (ih (i + 1) (by omega) b (best_keep hb hlt (.inl hc)))
        simp only [spec_LabelsOf.l1]
        rw [hlen, hwi, hwj, if_pos c1, if_neg (show ¬ (j : Int) = 0 by omega), if_pos c2, if_pos (show 0 ≤ ((j - 1 : Nat) : Int) by omega), if_pos (show ((j - 1 : Nat) : Int) < (j : Int) by omega), hrt, if_neg (by rw [tl_nm, rdL L i hlt, tl_nm]; exact fun h => hl ((less_is _ _).1 h))]
end
/-- The reference's choosing gives the sorted list. -/
theorem choose_is (L R : List SL) (hL : L.length ≤ 600) (hp : R.Perm L) (hs : ∀ i j (hi : i < j) (hj : j < R.length), nmL R[i] < nmL R[j]) :
    ∀ d j : Nat, j + d = R.length → Evt (fun k => spec_LabelsOf.l0 k L (R.take j)) R := by
  have hR : R.length = L.length := hp.length_eq
  intro d
  induction d with
  | zero =>
    intro j hj
    obtain rfl : j = R.length := by omega
    refine ev_end fun k => ?_
    simp only [spec_LabelsOf.l0]
    rw [List.take_length, if_neg (by omega)]
  | succ d ih =>
    intro j hj
    have hjl : j < R.length := by omega
    have hlen : (R.take j).length = j := by rw [List.length_take]; omega
    refine ev_step (g := fun k => spec_LabelsOf.l1 k L (R.take j) (-1) ((0 : Nat) : Int)) (fun k => ?_) ?_
    · simp only [spec_LabelsOf.l0]
      rw [hlen, if_pos (by omega)]; rfl
    · refine scan_is hL (by omega) hR R (fun b hb => ?_) L.length 0 (by omega) (-1) (.inl ⟨rfl, fun m hm => absurd hm (by omega)⟩)
      -- the next one of the sorted list is a candidate
      obtain ⟨γ, hγ, eγ⟩ := List.mem_iff_getElem.1 (hp.mem_iff.1 (List.getElem_mem hjl))
      have hcγ : Cand L R j γ := by
        refine ⟨hγ, ?_⟩
        by_cases h0 : j = 0
        · exact .inl h0
        · exact .inr ⟨by omega, by rw [eγ]; exact hs (j - 1) j (by omega) hjl⟩
      rcases hb with ⟨_, hb⟩ | ⟨β, rfl, _, hcβ, hβ, hb⟩
      · exact absurd hcγ (hb γ hγ)
      · obtain ⟨m, hm, em⟩ := List.mem_iff_getElem.1 (hp.mem_iff.2 (List.getElem_mem hβ))
        have hnl := hb γ hγ hcγ hγ
        rw [eγ, ← em] at hnl
        have hmj : m = j := by
          rcases Nat.lt_trichotomy m j with h | h | h
          · exfalso
            obtain ⟨_, h0 | ⟨h2, hl⟩⟩ := hcβ
            · omega
            · rw [← em] at hl
              rcases Nat.lt_or_ge m (j - 1) with h3 | h3
              · exact List.lt_irrefl _ (List.lt_trans hl (hs m (j - 1) h3 h2))
              · have h4 : m = j - 1 := by omega
                subst h4
                exact List.lt_irrefl _ hl
          · exact h
          · exact absurd (hs j m h hm) hnl
        subst hmj
        have h1 := ih (m + 1) (by omega)
        refine ev_step (fun k => ?_) h1
        simp only [spec_LabelsOf.l1]
        rw [if_neg (by omega), if_pos (by omega), if_pos (by omega), if_pos (by omega), rdL L β hβ, ← em, List.take_succ_eq_append_getElem hm]
/-- Both sides' labels. -/
theorem labels_both (s : ByteArray) (hs : s.size ≤ 9223372036854775807) : ∃ r : List SL, r.length ≤ 600 ∧ Evt (fun k => spec_LabelsOf.f k s) r ∧ impl_LabelsOf.f s = some r := by
  have h1 := spec_all s hs
  have h2 := impl_all s hs
  unfold spec_LabelsOf.f impl_LabelsOf.f
  rw [h2]
  simp only [Option.bind_some]
  by_cases hc : (asm s).2.2.1 = 0
  case neg =>
    refine ⟨[], by simp, ev_bind h1 (ev_of fun k => ?_), by rw [if_neg hc]⟩
    exact if_neg hc
  case pos =>
    have hfit : impl_assemble.fit s = true ∧ (impl_assemble.lines s).length ≤ 600 := by
      rcases Classical.em (impl_assemble.fit s = true ∧ (impl_assemble.lines s).length ≤ 600) with h | h
      · exact h
      · exfalso
        have : (asm s).2.2.1 = 1 := by unfold asm; rw [if_neg h]
        omega
    have ha : asm s = fin2 ((impl_assemble.lines s).map rOf) (p1 ((impl_assemble.lines s).map rOf) 0 0 []) := by unfold asm; rw [if_pos hfit]
    have h0 : (p1 ((impl_assemble.lines s).map rOf) 0 0 []).2.1 = 0 := by
      rcases Classical.em ((p1 ((impl_assemble.lines s).map rOf) 0 0 []).2.1 = 0) with h | h
      · exact h
      · rw [ha] at hc
        unfold fin2 at hc
        rw [if_neg h] at hc
        exact hc
    have hlb : (asm s).2.1 = (p1 ((impl_assemble.lines s).map rOf) 0 0 []).1 := by
      rw [ha]; unfold fin2; rw [if_pos h0]
    have hlabs := labs_is (impl_assemble.lines s) 0 0 [] h0
    obtain ⟨nd, hl⟩ := p1_nodup ((impl_assemble.lines s).map rOf) 0 0 [] (by simp)
    have hr := toS_right nd (by simp at hl; omega)
    rw [hlb] at h1
    generalize toS (p1 ((impl_assemble.lines s).map rOf) 0 0 []).1 = L at hlabs hr h1
    obtain ⟨s1, s2⟩ := sorted_is L hr
    refine ⟨impl_LabelsOf.sorted L, by rw [s1.length_eq]; exact hr.len, ev_bind h1 ?_, ?_⟩
    · dsimp only
      simp only [if_pos hc]
      have := choose_is L (impl_LabelsOf.sorted L) hr.len s1 s2 (impl_LabelsOf.sorted L).length 0 (by omega)
      rw [List.take_zero] at this
      exact this
    · rw [if_pos hc]
      have e : impl_LabelsOf.labs (impl_assemble.lines s) 0 [] = some L := hlabs
      rw [e, Option.bind_some]

end Go.Proofs.YtaophlekfepkgaaGreatDoor.PFnExactLabelsOf

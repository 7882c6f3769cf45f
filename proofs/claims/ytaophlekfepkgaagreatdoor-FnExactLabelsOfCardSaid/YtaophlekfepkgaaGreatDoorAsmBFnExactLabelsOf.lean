/- What kinds of lines there are; a word of an instruction in the reference and in the program; over the print of the law FnExactLabelsOf. -/
import Derived.Test.YtaophlekfepkgaaGreatDoorAsmAFnExactLabelsOf
namespace Go.Proofs.YtaophlekfepkgaaGreatDoor.PFnExactLabelsOf
open Go.RowKit Go.Proofs.YtaophlekfepkgaaGreatDoorW.PrintWords Go.Proofs.YtaophlekfepkgaaGreatDoorW.PrintLast Go.Proofs.YtaophlekfepkgaaGreatDoor.Lem

theorem in_is (n a b : Int) : spec_l01In.f n a b = some (decide (a ≤ n ∧ n ≤ b)) := by
  unfold spec_l01In.f
  by_cases h : n ≥ a
  · rw [if_pos h]; congr 1; simp; omega
  · rw [if_neg h]; congr 1; simp; omega
theorem imm_is (n : Int) : impl_isImm.f n = some (decide (-8192 ≤ n ∧ n ≤ 8191)) := by
  unfold impl_isImm.f impl_within.f
  by_cases h : n ≥ -8192
  · rw [if_pos h]; simp; omega
  · rw [if_neg h]; simp; omega
/-- An instruction that is right. -/
structure OkI (op a b c e : Int) : Prop where
  ro : 0 ≤ op ∧ op ≤ 32
  ra : 0 ≤ a ∧ a ≤ 15
  rb : 0 ≤ b ∧ b ≤ 15
  rc : 0 ≤ c ∧ c ≤ 15
  re : -8192 ≤ e ∧ e ≤ 8191
  is : spec_InstrOk.f op a b c e = some true
/-- A register that the form F has or has not. -/
def fldn (F : Int) (j : Nat) (x : Int) : Prop := if F / 2 ^ j % 2 = 0 then x = 0 else 0 ≤ x ∧ x ≤ 15
theorem fldn_range {F : Int} {j : Nat} {x : Int} (h : fldn F j x) : 0 ≤ x ∧ x ≤ 15 := by
  unfold fldn at h
  split at h <;> omega
theorem field_is (F bit x lo hi : Int) (hb : bit = 1 ∨ bit = 2 ∨ bit = 4 ∨ bit = 8) (hF : 0 ≤ F ∧ F ≤ 11) (h : if F / bit % 2 = 0 then x = 0 else lo ≤ x ∧ x ≤ hi) : spec_l02Field.f F bit x lo hi = some true := by
  unfold spec_l02Field.f
  have hd : Int.tmod (wrap64 (Int.tdiv F bit)) 2 = F / bit % 2 := by
    rw [tdiv_pos hF.1]
    rcases hb with rfl | rfl | rfl | rfl <;> (rw [w64 (by omega) (by omega), tmod_pos (by omega)])
  rw [if_neg (by omega), hd]
  by_cases h2 : F / bit % 2 = 0
  · rw [if_pos h2] at h ⊢; rw [h]; rfl
  · rw [if_neg h2] at h ⊢; rw [in_is, decide_eq_true h]; rfl
theorem okI_of {op F a b c e : Int} (ho : 0 ≤ op ∧ op ≤ 32) (hf : spec_FormOf.f op = some F) (hF : 0 ≤ F ∧ F ≤ 11) (ha : fldn F 0 a) (hb : fldn F 1 b) (hc : fldn F 2 c) (he : if F / 8 % 2 = 0 then e = 0 else -8192 ≤ e ∧ e ≤ 8191) : OkI op a b c e := by
  refine ⟨ho, fldn_range ha, fldn_range hb, fldn_range hc, by split at he <;> omega, ?_⟩
  unfold spec_InstrOk.f
  rw [hf, Option.bind_some, if_pos hF.1]
  rw [field_is F 1 a 0 15 (by omega) hF (by simpa [fldn] using ha), Option.bind_some, if_pos rfl]
  rw [field_is F 2 b 0 15 (by omega) hF (by simpa [fldn] using hb), Option.bind_some, if_pos rfl]
  rw [field_is F 4 c 0 15 (by omega) hF (by simpa [fldn] using hc), Option.bind_some, if_pos rfl]
  rw [field_is F 8 e (-8192) 8191 (by omega) hF he]; rfl
/-- What a line may be. -/
structure KP (r : RL) : Prop where
  k : r.1 = 0 ∨ r.1 = 1 ∨ r.1 = 2 ∨ r.1 = 3 ∨ r.1 = 4
  i : r.1 = 3 → OkI r.2.1 r.2.2.1 r.2.2.2.1 r.2.2.2.2.1 r.2.2.2.2.2.1
  b : r.1 = 4 → ∀ d : Int, -8192 ≤ d ∧ d ≤ 8191 → OkI r.2.1 r.2.2.1 r.2.2.2.1 r.2.2.2.2.1 d
theorem ne_of (x y : Int) {p : Prop} (hne : x ≠ y) (h : x = y) : p := absurd h hne
theorem kp_nil : KP impl_readLine.nil_ := ⟨.inl rfl, ne_of 0 3 (by decide), ne_of 0 4 (by decide)⟩
theorem kp_one (s : ByteArray) : KP (1, 0, 0, 0, 0, 0, 0, s) := ⟨.inr (.inl rfl), ne_of 1 3 (by decide), ne_of 1 4 (by decide)⟩
theorem kp_two (w : Int) : KP (2, 0, 0, 0, 0, 0, w, E0) := ⟨.inr (.inr (.inl rfl)), ne_of 2 3 (by decide), ne_of 2 4 (by decide)⟩
section
variable {k : Nat} {op F a b c : Int} {ws : List ByteArray} {r : RL}
theorem kp_br {w : ByteArray} (hi : ∀ d : Int, -8192 ≤ d ∧ d ≤ 8191 → OkI op a b c d) (h : impl_readLine.br k op a b c w = some r) : KP r := by
  unfold impl_readLine.br at h
  obtain ⟨q, _, h⟩ := Option.bind_eq_some_iff.1 h
  split at h
  · obtain ⟨l, _, h⟩ := Option.bind_eq_some_iff.1 h
    split at h
    · obtain rfl := Option.some.inj h
      exact ⟨.inr (.inr (.inr (.inr rfl))), ne_of 4 3 (by decide), fun _ => hi⟩
    · obtain rfl := Option.some.inj h; exact kp_nil
  · obtain rfl := Option.some.inj h; exact kp_nil
theorem kp_fin (hk : 0 ≤ F → ((F / 8 % 2 = 0 → OkI op a b c 0) ∧ (¬ F / 8 % 2 = 0 → ∀ d : Int, -8192 ≤ d ∧ d ≤ 8191 → OkI op a b c d))) (h : impl_readLine.fin k op F a b c ws = some r) : KP r := by
  unfold impl_readLine.fin at h
  split at h
  · obtain rfl := Option.some.inj h; exact kp_nil
  · rename_i h0
    obtain ⟨hk1, hk2⟩ := hk (by omega)
    split at h
    · rename_i h8
      split at h
      · obtain rfl := Option.some.inj h
        exact ⟨.inr (.inr (.inr (.inl rfl))), fun _ => hk1 h8, ne_of 3 4 (by decide)⟩
      · obtain rfl := Option.some.inj h; exact kp_nil
    · rename_i h8
      have hi := hk2 h8
      split at h
      · obtain ⟨d, _, h⟩ := Option.bind_eq_some_iff.1 h
        split at h
        · obtain ⟨m, hm, h⟩ := Option.bind_eq_some_iff.1 h
          by_cases hm2 : m = true
          · rw [if_pos hm2] at h
            obtain rfl := Option.some.inj h
            rw [imm_is, hm2] at hm
            exact ⟨.inr (.inr (.inr (.inl rfl))), fun _ => hi _ (of_decide_eq_true (Option.some.inj hm)), ne_of 3 4 (by decide)⟩
          · rw [if_neg hm2] at h; exact kp_br hi h
        · exact kp_br hi h
      · obtain rfl := Option.some.inj h; exact kp_nil
theorem reg_range (w : ByteArray) (g : Int × Bool) (hw : w.size ≤ 80) (h : impl_register.f w = some g) (hg : g.2 = true) : 0 ≤ g.1 ∧ g.1 ≤ 15 := by
  obtain ⟨v, n, q, _, h2, h3⟩ := reg_both w (by omega)
  rw [h2] at h
  obtain rfl := Option.some.inj h
  rcases h3 with ⟨_, h4, h5, h6, _⟩ | ⟨h4, _⟩
  · exact ⟨by rw [h4]; exact h5, by rw [h4]; exact h6⟩
  · exact absurd (hg.symm.trans h4) (by simp)
theorem fldn_zero (j : Nat) (h : ¬ ¬ F / 2 ^ j % 2 = 0) : fldn F j 0 := by
  unfold fldn
  rw [if_pos (by omega)]
theorem fldn_reg {j : Nat} {x : Int} (h : ¬ F / 2 ^ j % 2 = 0) (hx : 0 ≤ x ∧ x ≤ 15) : fldn F j x := by
  unfold fldn
  rw [if_neg h]; exact hx
/-- One more register. -/
theorem kp_step (n j : Nat) (hj : 2 - n = j) (hws : ∀ w ∈ ws, w.size ≤ 80) (set : Int → Int × Int × Int) (hset : ∀ x, set x = (if n = 2 then x else a, if n = 1 then x else b, if n = 0 then x else c))
    (h0 : set 0 = (a, b, c)) (hn : ∀ (x : Int) (ws' : List ByteArray), (∀ w ∈ ws', w.size ≤ 80) → (F < 0 ∨ fldn F j x) → impl_readLine.rd k op F n (set x).1 (set x).2.1 (set x).2.2 ws' = some r → KP r)
    (h : impl_readLine.rd k op F (n + 1) a b c ws = some r) : KP r := by
  unfold impl_readLine.rd at h
  rw [hj] at h
  split at h
  · rename_i hF
    exact hn 0 ws hws (.inl hF) (by rw [h0]; exact h)
  · split at h
    · rename_i hb
      exact hn 0 ws hws (.inr (fldn_zero j (fun e => e hb))) (by rw [h0]; exact h)
    · rename_i hb
      split at h
      · obtain rfl := Option.some.inj h; exact kp_nil
      · rename_i w t
        obtain ⟨g, hg, h⟩ := Option.bind_eq_some_iff.1 h
        split at h
        · rename_i hg2
          exact hn g.1 t (fun x hx => hws x (List.mem_cons_of_mem _ hx)) (.inr (fldn_reg hb (reg_range w g (hws w (by simp)) hg hg2))) (by rw [hset]; exact h)
        · obtain rfl := Option.some.inj h; exact kp_nil
theorem kp_rd (hF : F < 0 ∨ ((0 ≤ op ∧ op ≤ 32) ∧ spec_FormOf.f op = some F ∧ 0 ≤ F ∧ F ≤ 11)) (hws : ∀ w ∈ ws, w.size ≤ 80) (h : impl_readLine.rd k op F 3 0 0 0 ws = some r) : KP r := by
  refine kp_step 2 0 rfl hws (fun x => (x, 0, 0)) (fun x => by simp) rfl (fun a w1 h1 f1 h => ?_) h
  refine kp_step 1 1 rfl h1 (fun x => (a, x, 0)) (fun x => by simp) rfl (fun b w2 h2 f2 h => ?_) h
  refine kp_step 0 2 rfl h2 (fun x => (a, b, x)) (fun x => by simp) rfl (fun c w3 h3 f3 h => ?_) h
  have h : impl_readLine.fin k op F a b c w3 = some r := by
    rw [impl_readLine.rd] at h; exact h
  refine kp_fin (fun hf => ?_) h
  rcases hF with hF | ⟨ho, hs, hF⟩
  · omega
  · have g1 : fldn F 0 a := by rcases f1 with f | f; · omega
                               · exact f
    have g2 : fldn F 1 b := by rcases f2 with f | f; · omega
                               · exact f
    have g3 : fldn F 2 c := by rcases f3 with f | f; · omega
                               · exact f
    exact ⟨fun h8 => okI_of ho hs hF g1 g2 g3 (by rw [if_pos h8]), fun h8 d hd => okI_of ho hs hF g1 g2 g3 (by rw [if_neg h8]; exact hd)⟩
end
theorem kp_go (w0 : ByteArray) (wt : List ByteArray) (hws : ∀ w ∈ wt, w.size ≤ 80) (r : RL) (h : impl_readLine.go 200 w0 wt = some r) : KP r := by
  unfold impl_readLine.go at h
  split at h
  · unfold impl_readLine.wd at h
    split at h
    · obtain ⟨d, _, h⟩ := Option.bind_eq_some_iff.1 h
      split at h
      · split at h
        · obtain rfl := Option.some.inj h; exact kp_nil
        · obtain rfl := Option.some.inj h; exact kp_two _
      · obtain rfl := Option.some.inj h; exact kp_nil
    · obtain rfl := Option.some.inj h; exact kp_nil
  · obtain ⟨F, hF, h⟩ := Option.bind_eq_some_iff.1 h
    have hi := op_range w0
    generalize Lib.idxOfS ((List.range 33).map Tab.nm) w0 = op at hi hF h
    refine kp_rd ?_ hws h
    rcases hi with rfl | hi
    · rw [form_none] at hF
      obtain rfl := Option.some.inj hF
      exact .inl (by omega)
    · obtain ⟨F', f0, f1, f2, f3⟩ := form_both op ⟨hi.1, by omega⟩
      rw [f3] at hF
      obtain rfl := Option.some.inj hF
      exact .inr ⟨⟨hi.1, by omega⟩, f2, f0, f1⟩
/-- A line, in both: what it is. -/
theorem rd_both (x : ByteArray) : ∃ r : RL, Evt (fun k => spec_ReadLine.f k x) r ∧ impl_assemble.rd x = some r ∧ KP r := by
  unfold impl_assemble.rd
  by_cases h : x.size ≤ 80
  · obtain ⟨r, h1, h2⟩ := line_both x h
    refine ⟨r, h1, by rw [if_pos h, h2], ?_⟩
    unfold impl_readLine.f impl_readLine.f0 at h2
    rw [if_pos h] at h2
    have hw : ∀ w ∈ impl_readLine.ws x, w.size ≤ 80 := by
      intro w hw
      rw [ws_is] at hw
      obtain ⟨y, hy, rfl⟩ := List.mem_map.1 hw
      have := pieces_len x.data.toList y hy
      have hsz : x.size = x.data.toList.length := by rw [Array.length_toList]; rfl
      rw [bs_size]; omega
    have ht : ∀ w ∈ (impl_readLine.ws x).tail, w.size ≤ 80 := fun w hw2 => hw w (List.mem_of_mem_tail hw2)
    unfold impl_readLine.f1 at h2
    split at h2
    · split at h2
      · obtain ⟨l, _, h2⟩ := Option.bind_eq_some_iff.1 h2
        split at h2
        · obtain rfl := Option.some.inj h2; exact kp_one _
        · exact kp_go _ _ ht r h2
      · exact kp_go _ _ ht r h2
    · exact kp_go _ _ ht r h2
  · refine ⟨impl_readLine.nil_, ?_, by rw [if_neg h], kp_nil⟩
    unfold spec_ReadLine.f
    simp only [if_pos (show (x.size : Int) > 80 by omega)]
    exact ev_of fun _ => rfl

end Go.Proofs.YtaophlekfepkgaaGreatDoor.PFnExactLabelsOf

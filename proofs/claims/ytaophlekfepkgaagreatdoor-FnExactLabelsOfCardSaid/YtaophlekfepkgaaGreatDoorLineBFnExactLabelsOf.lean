/- What a line is, in the reference and in the program, over the print of the law FnExactLabelsOf. -/
import Derived.Test.YtaophlekfepkgaaGreatDoorLineAFnExactLabelsOf
namespace Go.Proofs.YtaophlekfepkgaaGreatDoor.PFnExactLabelsOf
open Go.RowKit Go.Proofs.YtaophlekfepkgaaGreatDoorW.PrintWords Go.Proofs.YtaophlekfepkgaaGreatDoorW.PrintLast Go.Proofs.YtaophlekfepkgaaGreatDoor.Lem Go.Proofs.YtaophlekfepkgaaGreatDoor.SplitL

abbrev RL := Int × Int × Int × Int × Int × Int × Int × ByteArray
abbrev E0 : ByteArray := ⟨#[]⟩
/-- Both sides behind n more registers. -/
def Both (ws : List ByteArray) (op F : Int) (n : Nat) (at_ : Nat) (bit a b c : Int) (wk : List ByteArray) : Prop :=
  ∃ r : RL, Evt (fun k => spec_ReadLine.l0 k ws op F at_ bit 0 0 0 0 0 0 0 E0 3 op a b c 0 0 E0) r ∧ impl_readLine.rd 200 op F n a b c wk = some r
theorem rd_none (ws : List ByteArray) (at_ : Nat) (h : ws.drop at_ = []) : ws.length ≤ at_ := by
  have := congrArg List.length h; simp at this; omega
theorem rd_some (ws : List ByteArray) (at_ : Nat) (w : ByteArray) (t : List ByteArray) (h : ws.drop at_ = w :: t) : at_ < ws.length ∧ rdOf ByteArray.empty ws (at_ : Int) = w ∧ ws.drop (at_ + 1) = t ∧ w ∈ ws ∧ ws.length = at_ + 1 + t.length := by
  have hl : at_ < ws.length := by
    have := congrArg List.length h; simp at this; omega
  have h2 := List.drop_eq_getElem_cons hl
  rw [h] at h2
  injection h2 with h3 h4
  refine ⟨hl, ?_, h4.symm, ?_, ?_⟩
  · unfold rdOf; rw [Int.toNat_natCast, List.getD_eq_getElem?_getD, List.getElem?_eq_getElem hl]; exact h3.symm
  · rw [h3]; exact List.getElem_mem _
  · have := congrArg List.length h; simp at this; omega
theorem rd_end (ws : List ByteArray) (hws : ∀ w ∈ ws, w.size ≤ 80) (hlen : ws.length ≤ 1000) (op F : Int) (hF : 0 ≤ F ∧ F ≤ 11) (at_ : Nat) (ha : at_ ≤ ws.length) (a b c : Int) : Both ws op F 0 at_ 8 a b c (ws.drop at_) := by
  have e8 : Int.tmod (wrap64 (Int.tdiv F 8)) 2 = F / 8 % 2 := by
    rw [tdiv_pos hF.1, w64 (by omega) (by omega), tmod_pos (by omega)]
  have himp : ∀ wk, impl_readLine.rd 200 op F 0 a b c wk = impl_readLine.fin 200 op F a b c wk := fun wk => by rw [impl_readLine.rd]
  unfold Both
  by_cases h8 : F / 8 % 2 = 1
  · have hfin : ∀ wk, impl_readLine.fin 200 op F a b c wk = (match wk with
        | [w] => (impl_DecNum.f w 8192).bind fun d => if d.2 = true then ((impl_isImm.f d.1).bind fun m => if m = true then some (3, op, a, b, c, d.1, 0, (⟨#[]⟩ : ByteArray)) else impl_readLine.br 200 op a b c w) else impl_readLine.br 200 op a b c w
        | _ => some impl_readLine.nil_) := fun wk => by
      unfold impl_readLine.fin
      rw [if_neg (by omega), if_neg (by omega)]
      rfl
    cases hd : ws.drop at_ with
    | nil =>
      have hl := rd_none ws at_ hd
      refine ⟨impl_readLine.nil_, ev_end fun k => ?_, by rw [himp, hfin]⟩
      simp only [spec_ReadLine.l0]
      rw [if_neg (by omega), e8, if_pos h8, if_pos (by omega)]; rfl
    | cons w t =>
      obtain ⟨hl, hw, _, hm, hlen2⟩ := rd_some ws at_ w t hd
      have hsz := hws w hm
      obtain ⟨r, r1, r2, r3, r4⟩ := num_full w 8192 (by omega) (by omega)
      obtain ⟨l, l1, l2, _⟩ := lab_both w hsz 200 (by omega)
      have hat : wrap64 ((at_ : Int) + 1) = (at_ : Int) + 1 := w64 (by omega) (by omega)
      -- behind the test of the op
      have j4 : ∀ q : Bool, Evt (fun k => spec_ReadLine.j4 k ws at_ q 0 0 0 0 0 0 0 E0 3 op a b c 0 0 E0) (if q = true ∧ t = [] then ((4, op, a, b, c, 0, 0, w) : RL) else impl_readLine.nil_) := by
        intro q
        refine ev_end fun k => ?_
        simp only [spec_ReadLine.j4]
        cases q with
        | false => rw [if_neg (by simp), if_neg (by simp)]; rfl
        | true =>
          rw [if_pos rfl, if_pos (by omega), if_pos (by omega), hat, hw]
          by_cases ht : t = []
          · rw [if_pos (show (at_ : Int) + 1 = (ws.length : Int) by rw [hlen2, ht]; simp), if_pos (show true = true ∧ t = [] from ⟨rfl, ht⟩)]
          · rw [if_neg (show ¬ (at_ : Int) + 1 = (ws.length : Int) by rw [hlen2]; have := List.length_pos_iff.2 ht; omega), if_neg (show ¬ (true = true ∧ t = []) from fun h => ht h.2)]; rfl
      have j3 : ∀ (n : Int) (q : Bool), Evt (fun k => spec_ReadLine.j3 k ws op at_ n q 0 0 0 0 0 0 0 E0 3 op a b c 0 0 E0) (if t = [] then (if q = true then ((3, op, a, b, c, n, 0, E0) : RL) else if (19 ≤ op ∧ op ≤ 22) ∧ l = true then (4, op, a, b, c, 0, 0, w) else impl_readLine.nil_) else impl_readLine.nil_) := by
        intro n q
        cases q with
        | true =>
          refine ev_end fun k => ?_
          simp only [spec_ReadLine.j3, if_true]
          rw [hat]
          by_cases ht : t = []
          · rw [if_pos (show (at_ : Int) + 1 = (ws.length : Int) by rw [hlen2, ht]; simp), if_pos ht]
          · rw [if_neg (show ¬ (at_ : Int) + 1 = (ws.length : Int) by rw [hlen2]; have := List.length_pos_iff.2 ht; omega), if_neg ht]; rfl
        | false =>
          by_cases hop : 19 ≤ op ∧ op ≤ 22
          · refine ev_step (g := fun k => (spec_LabelOk.f k w).bind fun t181 => spec_ReadLine.j4 k ws at_ t181 0 0 0 0 0 0 0 E0 3 op a b c 0 0 E0) (fun k => ?_) (ev_bind l1 ?_)
            · simp only [spec_ReadLine.j3]
              rw [if_neg (by simp), num_in, decide_eq_true hop]
              simp only [Option.bind_some, if_true]
              rw [if_pos (by omega), if_pos (by omega), hw]
            · have := j4 l
              cases l <;> by_cases ht : t = [] <;> simpa [hop, ht] using this
          · refine ev_step (g := fun k => spec_ReadLine.j4 k ws at_ false 0 0 0 0 0 0 0 E0 3 op a b c 0 0 E0) (fun k => ?_) ?_
            · simp only [spec_ReadLine.j3]
              rw [if_neg (by simp), num_in, decide_eq_false hop]
              simp
            · have := j4 false
              by_cases ht : t = [] <;> simpa [hop, ht] using this
      have hspec : Evt (fun k => spec_ReadLine.l0 k ws op F at_ 8 0 0 0 0 0 0 0 E0 3 op a b c 0 0 E0) (if t = [] then (if (if r.2 = true then decide (r.1 ≤ 8191) else false) = true then ((3, op, a, b, c, r.1, 0, E0) : RL) else if (19 ≤ op ∧ op ≤ 22) ∧ l = true then (4, op, a, b, c, 0, 0, w) else impl_readLine.nil_) else impl_readLine.nil_) := by
        refine ev_step (g := fun k => (spec_DecNum.f k w 8192).bind fun bt177 => if bt177.2 = true then (spec_ReadLine.j3 k ws op at_ bt177.1 (decide (bt177.1 ≤ 8191)) 0 0 0 0 0 0 0 E0 3 op a b c 0 0 E0) else (spec_ReadLine.j3 k ws op at_ bt177.1 false 0 0 0 0 0 0 0 E0 3 op a b c 0 0 E0)) (fun k => ?_) (ev_bind r1 ?_)
        · simp only [spec_ReadLine.l0]
          rw [if_neg (by omega), e8, if_pos h8, if_neg (by omega), if_pos (by omega), if_pos (by omega), hw]
        · cases h2 : r.2 with
          | true => simpa [h2] using j3 r.1 (decide (r.1 ≤ 8191))
          | false => simpa [h2] using j3 r.1 false
      refine ⟨_, hspec, ?_⟩
      rw [himp, hfin]
      cases t with
      | cons x t => simp
      | nil =>
        rw [if_pos rfl]
        simp only [r2, Option.bind_some]
        have hbr : impl_readLine.br 200 op a b c w = some (if (19 ≤ op ∧ op ≤ 22) ∧ l = true then ((4, op, a, b, c, 0, 0, w) : RL) else impl_readLine.nil_) := by
          unfold impl_readLine.br impl_isBranch.f
          rw [lab_within]
          simp only [Option.bind_some, l2]
          by_cases hop : 19 ≤ op ∧ op ≤ 22
          · rw [decide_eq_true hop, if_pos rfl]
            cases l <;> simp [hop]
          · rw [decide_eq_false hop, if_neg (by simp), if_neg (fun h => hop h.1)]
        rw [hbr]
        rcases r4 with rfl | ⟨v, hv, rfl⟩
        · simp
        · have := hv.2.2
          simp only [if_true, impl_isImm.f, lab_within, Option.bind_some]
          by_cases h : v ≤ 8191
          · rw [decide_eq_true (show -8192 ≤ v ∧ v ≤ 8191 by omega), decide_eq_true h, if_pos rfl, if_pos rfl]
          · rw [decide_eq_false (show ¬ (-8192 ≤ v ∧ v ≤ 8191) by omega), decide_eq_false h, if_neg Bool.false_ne_true, if_neg Bool.false_ne_true]
  · refine ⟨if ws.drop at_ = [] then ((3, op, a, b, c, 0, 0, E0) : RL) else impl_readLine.nil_, ev_end fun k => ?_, ?_⟩
    · simp only [spec_ReadLine.l0]
      rw [if_neg (by omega), e8, if_neg h8]
      cases hd : ws.drop at_ with
      | nil => have := rd_none ws at_ hd; rw [if_pos (by omega), if_pos rfl]
      | cons w t => have := (rd_some ws at_ w t hd).1; rw [if_neg (by omega), if_neg (by simp)]; rfl
    · rw [himp]; unfold impl_readLine.fin
      rw [if_neg (by omega), if_pos (by omega)]
      split <;> simp_all
set_option maxHeartbeats 2000000 in
theorem rd_step (ws : List ByteArray) (hws : ∀ w ∈ ws, w.size ≤ 80) (hlen : ws.length ≤ 1000) (op F : Int) (hF : 0 ≤ F ∧ F ≤ 11) (n : Nat) (bit : Int) (hnb : (n = 2 ∧ bit = 1) ∨ (n = 1 ∧ bit = 2) ∨ (n = 0 ∧ bit = 4))
    (IH : ∀ (at_ : Nat), at_ ≤ ws.length → ∀ a b c : Int, Both ws op F n at_ (2 * bit) a b c (ws.drop at_)) (at_ : Nat) (ha : at_ ≤ ws.length) (a b c : Int) : Both ws op F (n + 1) at_ bit a b c (ws.drop at_) := by
  have hb1 : 1 ≤ bit ∧ bit ≤ 4 := by omega
  have himp0 : F / bit % 2 = 1 → impl_readLine.rd 200 op F (n + 1) a b c [] = some impl_readLine.nil_ := by
    intro hb
    have hpow : (2 : Int) ^ (2 - n) = bit := by rcases hnb with ⟨rfl, rfl⟩ | ⟨rfl, rfl⟩ | ⟨rfl, rfl⟩ <;> rfl
    have hb2 : ¬ F / 2 ^ (2 - n) % 2 = 0 := by rw [hpow, hb]; decide
    rw [impl_readLine.rd, if_neg (Int.not_lt.2 hF.1), if_neg hb2]
  have himp1 : F / bit % 2 = 1 → ∀ w t, impl_readLine.rd 200 op F (n + 1) a b c (w :: t) = (impl_register.f w).bind fun g => if g.2 = true then impl_readLine.rd 200 op F n (if n = 2 then g.1 else a) (if n = 1 then g.1 else b) (if n = 0 then g.1 else c) t else some impl_readLine.nil_ := by
    intro hb w t
    have hpow : (2 : Int) ^ (2 - n) = bit := by rcases hnb with ⟨rfl, rfl⟩ | ⟨rfl, rfl⟩ | ⟨rfl, rfl⟩ <;> rfl
    have hb2 : ¬ F / 2 ^ (2 - n) % 2 = 0 := by rw [hpow, hb]; decide
    rw [impl_readLine.rd, if_neg (Int.not_lt.2 hF.1), if_neg hb2]
  have himp2 : F / bit % 2 = 0 → ∀ wk, impl_readLine.rd 200 op F (n + 1) a b c wk = impl_readLine.rd 200 op F n a b c wk := by
    intro hb wk
    have hpow : (2 : Int) ^ (2 - n) = bit := by rcases hnb with ⟨rfl, rfl⟩ | ⟨rfl, rfl⟩ | ⟨rfl, rfl⟩ <;> rfl
    have hb2 : F / 2 ^ (2 - n) % 2 = 0 := by rw [hpow, hb]
    conv => lhs; unfold impl_readLine.rd
    rw [if_neg (Int.not_lt.2 hF.1), if_pos hb2]
  have hq0 : 0 ≤ F / bit := Int.ediv_nonneg hF.1 (by omega)
  have hq1 : F / bit ≤ F := Int.ediv_le_self _ hF.1
  have eb : Int.tmod (wrap64 (Int.tdiv F bit)) 2 = F / bit % 2 := by
    rw [tdiv_pos hF.1, w64 (by omega) (by omega), tmod_pos (by omega)]
  have e2b : wrap64 (2 * bit) = 2 * bit := w64 (by omega) (by omega)
  have h4 : bit ≤ 4 := hb1.2
  have hne : ¬ bit = 0 := by omega
  have hz : (0 : Int) ≤ (at_ : Int) := Int.natCast_nonneg _
  have hbit0 : ¬ F / bit % 2 = 1 → F / bit % 2 = 0 := by omega
  by_cases hbit : F / bit % 2 = 1
  · cases hd : ws.drop at_ with
    | nil =>
      have hl := rd_none ws at_ hd
      have hge : (at_ : Int) ≥ (ws.length : Int) := by exact_mod_cast hl
      refine ⟨impl_readLine.nil_, ?_, himp0 hbit⟩
      refine ev_step (g := fun k => spec_ReadLine.j2 k ws op F at_ bit true 0 0 0 0 0 0 0 E0 3 op a b c 0 0 E0) (fun k => ?_) (ev_end fun k => ?_)
      · simp only [spec_ReadLine.l0]
        rw [if_pos h4, if_neg hne, eb, if_pos hbit, if_pos hge]
      · simp only [spec_ReadLine.j2, if_true]; rfl
    | cons w t =>
      obtain ⟨hl, hw, ht, hm, hlen2⟩ := rd_some ws at_ w t hd
      have hsz := hws w hm
      have hlt : (at_ : Int) < (ws.length : Int) := by exact_mod_cast hl
      have hnge : ¬ (at_ : Int) ≥ (ws.length : Int) := Int.not_le.2 hlt
      obtain ⟨v, gn, gb, g1, g2, g3⟩ := reg_both w (by omega)
      have hat : wrap64 ((at_ : Int) + 1) = ((at_ + 1 : Nat) : Int) := w64 (by omega) (by omega)
      have start : ∀ r : RL, Evt (fun k => spec_ReadLine.j2 k ws op F at_ bit (decide (v < 0)) 0 0 0 0 0 0 0 E0 3 op a b c 0 0 E0) r → Evt (fun k => spec_ReadLine.l0 k ws op F at_ bit 0 0 0 0 0 0 0 E0 3 op a b c 0 0 E0) r := by
        intro r hr
        refine ev_step (g := fun k => (spec_l03Reg.f k w).bind fun t173 => spec_ReadLine.j2 k ws op F at_ bit (decide (t173 < 0)) 0 0 0 0 0 0 0 E0 3 op a b c 0 0 E0) (fun k => ?_) (ev_bind g1 hr)
        simp only [spec_ReadLine.l0]
        rw [if_pos h4, if_neg hne, eb, if_pos hbit, if_neg hnge, if_pos hz, if_pos hlt, hw]
      rcases g3 with ⟨rfl, rfl, hv0, hv1, _⟩ | ⟨rfl, rfl⟩
      · obtain ⟨r, s1, s2⟩ := IH (at_ + 1) (by omega) (if n = 2 then gn else a) (if n = 1 then gn else b) (if n = 0 then gn else c)
        refine ⟨r, start r ?_, ?_⟩
        · rw [decide_eq_false (by omega)]
          refine ev_step (g := fun k => (spec_l03Reg.f k w).bind fun t175 => (if bit = 1 then (spec_ReadLine.l0 k ws op F ((at_ + 1 : Nat) : Int) (2 * bit) 0 0 0 0 0 0 0 E0 3 op t175 b c 0 0 E0) else (if bit = 2 then (spec_ReadLine.l0 k ws op F ((at_ + 1 : Nat) : Int) (2 * bit) 0 0 0 0 0 0 0 E0 3 op a t175 c 0 0 E0) else (spec_ReadLine.l0 k ws op F ((at_ + 1 : Nat) : Int) (2 * bit) 0 0 0 0 0 0 0 E0 3 op a b t175 0 0 E0)))) (fun k => ?_) (ev_bind g1 ?_)
          · simp only [spec_ReadLine.j2]
            rw [if_neg (by simp), if_pos hz, if_pos hlt, hw, hat, e2b]
          · rcases hnb with ⟨rfl, rfl⟩ | ⟨rfl, rfl⟩ | ⟨rfl, rfl⟩ <;> simpa using s1
        · rw [himp1 hbit, g2, ← ht]
          simpa using s2
      · refine ⟨impl_readLine.nil_, start _ ?_, ?_⟩
        · rw [decide_eq_true (by omega)]
          refine ev_end fun k => ?_
          simp only [spec_ReadLine.j2, if_true]; rfl
        · rw [himp1 hbit]; simp [g2]
  · obtain ⟨r, s1, s2⟩ := IH at_ ha a b c
    refine ⟨r, ev_step (fun k => ?_) s1, ?_⟩
    · simp only [spec_ReadLine.l0]
      rw [if_pos h4, if_neg hne, eb, if_neg hbit, e2b]
    · rw [himp2 (hbit0 hbit)]
      exact s2
theorem rd_all (ws : List ByteArray) (hws : ∀ w ∈ ws, w.size ≤ 80) (hlen : ws.length ≤ 1000) (h1 : 1 ≤ ws.length) (op F : Int) (hF : 0 ≤ F ∧ F ≤ 11) : Both ws op F 3 1 1 0 0 0 (ws.drop 1) :=
  rd_step ws hws hlen op F hF 2 1 (by omega) (rd_step ws hws hlen op F hF 1 2 (by omega) (rd_step ws hws hlen op F hF 0 4 (by omega) (fun at_ ha a b c => rd_end ws hws hlen op F hF at_ ha a b c))) 1 h1 0 0 0
/-- A line that is no label. -/
theorem go_both (w0 : ByteArray) (wt : List ByteArray) (hws : ∀ w ∈ w0 :: wt, w.size ≤ 80) (hlen : wt.length ≤ 900) : ∃ r : RL, Evt (fun k => spec_ReadLine.j0 k (w0 :: wt) false 0 0 0 0 0 0 0 E0) r ∧ impl_readLine.go 200 w0 wt = some r := by
  have h0 : rdOf ByteArray.empty (w0 :: wt) 0 = w0 := rfl
  have hlc : (((w0 :: wt).length : Nat) : Int) = (wt.length : Int) + 1 := by simp
  unfold impl_readLine.go
  by_cases hd : w0.toList = ([46, 119, 111, 114, 100] : List UInt8)
  · rw [if_pos hd]
    by_cases h2 : wt.length = 1
    · obtain ⟨x, rfl⟩ := List.length_eq_one_iff.1 h2
      have hx := hws x (by simp)
      obtain ⟨r, r1, r2, _, r4⟩ := num_full x 4294967295 (by omega) (by omega)
      have h1 : rdOf ByteArray.empty [w0, x] 1 = x := rfl
      refine ⟨if r.2 = true then (if r.1 < 0 then impl_readLine.nil_ else ((2, 0, 0, 0, 0, 0, r.1 % 4294967296, E0) : RL)) else impl_readLine.nil_, ?_, ?_⟩
      · refine ev_step (g := fun k => (spec_DecNum.f k x 4294967295).bind fun bt166 => (if bt166.2 = true then (if bt166.1 < 0 then some impl_readLine.nil_ else (some ((2, 0, 0, 0, 0, 0, (bt166.1) % 4294967296, E0) : RL))) else some impl_readLine.nil_)) (fun k => ?_) (ev_bind r1 (ev_of fun k => ?_))
        · simp only [spec_ReadLine.j0]
          rw [if_neg (by simp), hlc, if_pos (by omega), h0, if_pos hd, if_pos (by simp), if_pos (by simp), h1]
          rfl
        · cases r.2 <;> by_cases h : r.1 < 0 <;> simp [h]
      · unfold impl_readLine.wd
        simp only [r2, Option.bind_some]
        cases r.2 <;> by_cases h : r.1 < 0 <;> simp [h]
    · refine ⟨impl_readLine.nil_, ev_end fun k => ?_, ?_⟩
      · simp only [spec_ReadLine.j0]
        rw [if_neg (by simp), hlc, if_pos (by omega), h0, if_pos hd, if_neg (by omega)]; rfl
      · unfold impl_readLine.wd
        split
        · simp at h2
        · rfl
  · rw [if_neg hd]
    have hop := op_is w0
    have start : ∀ r : RL, (if Lib.idxOfS ((List.range 33).map Tab.nm) w0 < 0 then r = impl_readLine.nil_ else ∃ F, spec_FormOf.f (Lib.idxOfS ((List.range 33).map Tab.nm) w0) = some F ∧ Evt (fun k => spec_ReadLine.l0 k (w0 :: wt) (Lib.idxOfS ((List.range 33).map Tab.nm) w0) F 1 1 0 0 0 0 0 0 0 E0 3 (Lib.idxOfS ((List.range 33).map Tab.nm) w0) 0 0 0 0 0 E0) r) → Evt (fun k => spec_ReadLine.j0 k (w0 :: wt) false 0 0 0 0 0 0 0 E0) r := by
      intro r hr
      refine ev_step (g := fun k => (spec_OpOf.f k w0).bind fun t169 => (if t169 < 0 then some impl_readLine.nil_ else ((spec_FormOf.f t169).bind fun t170 => (spec_ReadLine.l0 k (w0 :: wt) t169 t170 1 1 0 0 0 0 0 0 0 E0 3 t169 0 0 0 0 0 E0)))) (fun k => ?_) (ev_bind hop ?_)
      · simp only [spec_ReadLine.j0]
        rw [if_neg (by simp), hlc, if_pos (by omega), h0, if_neg hd]; rfl
      · split at hr
        · rename_i hlt
          subst hr
          simp only [if_pos hlt]; exact ev_of fun _ => rfl
        · rename_i hlt
          obtain ⟨F, hF, hr⟩ := hr
          simp only [if_neg hlt, hF, Option.bind_some]; exact hr
    have hrange := op_range w0
    generalize Lib.idxOfS ((List.range 33).map Tab.nm) w0 = op at *
    rcases hrange with rfl | hr
    · refine ⟨impl_readLine.nil_, start _ (by rw [if_pos (by omega)]), ?_⟩
      rw [form_none]
      rfl
    · obtain ⟨F, hF0, hF1, f1, f2⟩ := form_both op hr
      obtain ⟨r, s1, s2⟩ := rd_all (w0 :: wt) hws (by simp; omega) (by simp) op F ⟨hF0, hF1⟩
      exact ⟨r, start r (by rw [if_neg (by omega)]; exact ⟨F, f1, s1⟩), by rw [f2]; exact s2⟩

end Go.Proofs.YtaophlekfepkgaaGreatDoor.PFnExactLabelsOf

/- Where a drawn text is refused at a line by its form, by a label that is there twice or by too many words, the text cut behind that line is refused in the same way, and cut ahead of it not so: for every code (of one longer than 2^20 the statement asks nothing). No condition. -/
import Derived.Test.YtaophlekfepkgaaGreatDoorJoinFnFaultLine
import Derived.Test.YtaophlekfepkgaaGreatDoorDrawSFnFaultLine
namespace Go.Proofs.YtaophlekfepkgaaGreatDoor.PFnFaultLine
open Go.RowKit Go.Proofs.YtaophlekfepkgaaGreatDoorW.PrintWords Go.Proofs.YtaophlekfepkgaaGreatDoorW.PrintLast Go.Proofs.YtaophlekfepkgaaGreatDoor.Lem

section
variable (s : ByteArray) (c : Int) (ln : Nat) (R : Bool)
def FlAt (n : Nat) (b a : Int) (i : Nat) : Prop := Evt (fun k => laws_FnFaultLine.l0 k s c ln n b a i) R
theorem flSkip (hs : s.size ≤ 20000) : ∀ (m i n : Nat) (b a : Int), (∀ t, t < m → ∃ h : i + t < s.data.toList.length, s.data.toList[i + t] ≠ 10) → FlAt s c ln R n b a (i + m) → FlAt s c ln R n b a i
  | 0, i, n, b, a, _, h => h
  | m + 1, i, n, b, a, hm, h => by
    have hsz : s.size = s.data.toList.length := by rw [Array.length_toList]; rfl
    obtain ⟨hi, hne⟩ := hm 0 (by omega)
    have hi : i < s.data.toList.length := hi
    have hne : s.data.toList[i] ≠ 10 := hne
    have h1 := flSkip hs m (i + 1) n b a (fun t ht => by
      obtain ⟨h2, h3⟩ := hm (t + 1) (by omega)
      have e : i + (t + 1) = i + 1 + t := by omega
      refine ⟨by omega, ?_⟩
      have h4 : s.data.toList[i + (t + 1)]? = s.data.toList[i + 1 + t]? := by rw [e]
      rw [List.getElem?_eq_getElem h2, List.getElem?_eq_getElem (by omega)] at h4
      rw [← Option.some.inj h4]; exact h3) (by rw [show i + 1 + m = i + (m + 1) by omega]; exact h)
    refine ev_step (fun k => ?_) h1
    simp only [laws_FnFaultLine.l0]
    have hb := bt_at s i hi
    have hn10 : ¬ ((s.data.toList[i]).toNat : Int) = 10 := by
      intro h
      apply hne
      apply UInt8.toNat_inj.1
      have : (10 : UInt8).toNat = 10 := rfl
      omega
    rw [if_pos (by omega), if_pos (by omega), hb, if_neg hn10, w64 (by omega) (by omega)]
    rfl
theorem flNewline (hs : s.size ≤ 20000) (i n : Nat) (b a : Int) (hi : i < s.data.toList.length) (h10 : s.data.toList[i] = 10) (hn : n ≤ 1000) (hl : 1 ≤ ln ∧ ln ≤ 1000)
    (h : FlAt s c ln R (n + 1) (if n + 1 = ln then ((i + 1 : Nat) : Int) else b) (if n + 1 = ln - 1 then ((i + 1 : Nat) : Int) else a) (i + 1)) : FlAt s c ln R n b a i := by
  have hsz : s.size = s.data.toList.length := by rw [Array.length_toList]; rfl
  have c1 : (i : Int) < (s.size : Int) := by omega
  have c2 : 0 ≤ (i : Int) := by omega
  have c3 : ((n + 1 : Nat) : Int) = ((ln - 1 : Nat) : Int) ↔ n + 1 = ln - 1 := by omega
  have c4 : ((n + 1 : Nat) : Int) = (ln : Int) ↔ n + 1 = ln := by omega
  have c5 : ¬ (n + 1 = ln - 1 ∧ n + 1 = ln) := by omega
  have w1 : wrap64 ((n : Int) + 1) = ((n + 1 : Nat) : Int) := by rw [w64 (by omega) (by omega)]; omega
  have w2 : wrap64 ((ln : Int) - 1) = ((ln - 1 : Nat) : Int) := by rw [w64 (by omega) (by omega)]; omega
  have w3 : wrap64 ((i : Int) + 1) = ((i + 1 : Nat) : Int) := by rw [w64 (by omega) (by omega)]; omega
  have hb := bt_at s i hi
  rw [h10] at hb
  have hb : bt s (i : Int) = 10 := hb
  refine ev_step (fun k => ?_) h
  simp only [laws_FnFaultLine.l0]
  rw [if_pos c1, if_pos c2, hb, if_pos (show (10 : Int) = 10 from rfl), w1, w2, w3]
  have key : ∀ (p q : Prop) [Decidable p] [Decidable q], (((n + 1 : Nat) : Int) = ((ln - 1 : Nat) : Int) ↔ p) → (((n + 1 : Nat) : Int) = (ln : Int) ↔ q) → ¬ (p ∧ q) → ∀ (F : Int → Int → Option Bool),
      (if ((n + 1 : Nat) : Int) = ((ln - 1 : Nat) : Int) then (if ((n + 1 : Nat) : Int) = (ln : Int) then F ((i + 1 : Nat) : Int) ((i + 1 : Nat) : Int) else F b ((i + 1 : Nat) : Int)) else (if ((n + 1 : Nat) : Int) = (ln : Int) then F ((i + 1 : Nat) : Int) a else F b a)) = F (if q then ((i + 1 : Nat) : Int) else b) (if p then ((i + 1 : Nat) : Int) else a) := by
    intro p q _ _ hp hq hpq F
    by_cases e1 : p
    · have e2 : ¬ q := fun h => hpq ⟨e1, h⟩
      rw [if_pos (hp.2 e1), if_neg (fun h => e2 (hq.1 h)), if_neg e2, if_pos e1]
    · rw [if_neg (fun h => e1 (hp.1 h)), if_neg e1]
      by_cases e2 : q
      · rw [if_pos (hq.2 e2), if_pos e2]
      · rw [if_neg (fun h => e2 (hq.1 h)), if_neg e2]
  exact key (n + 1 = ln - 1) (n + 1 = ln) c3 c4 c5 (fun b' a' => laws_FnFaultLine.l0 k s c ln ((n + 1 : Nat) : Int) b' a' ((i + 1 : Nat) : Int))
/-- How far the first j lines go. -/
def FlP (ys : List (List UInt8)) (j : Nat) : Nat := (join (ys.take j)).length
theorem lines_loop2 (hs : s.size ≤ 20000) (ys : List (List UInt8)) (hc : Clean ys) (hj : s.data.toList = join ys) (hy : ys.length ≤ 600) (hl : 1 ≤ ln ∧ ln ≤ ys.length)
    (hend : FlAt s c ln R ys.length (FlP ys ln) (FlP ys (ln - 1)) s.size) :
    ∀ (zs pre : List (List UInt8)), ys = pre ++ zs → FlAt s c ln R pre.length (if ln ≤ pre.length then (FlP ys ln : Int) else 0) (if ln - 1 ≤ pre.length then (FlP ys (ln - 1) : Int) else 0) (join pre).length
  | [], pre, e => by
    rw [List.append_nil] at e
    subst e
    rw [if_pos hl.2, if_pos (by omega)]
    have hsz : s.size = s.data.toList.length := by rw [Array.length_toList]; rfl
    rw [hsz, hj] at hend
    exact hend
  | y :: t, pre, e => by
    have hsz : s.size = s.data.toList.length := by rw [Array.length_toList]; rfl
    have hd : s.data.toList.drop (join pre).length = y ++ 10 :: join t := by
      rw [hj, e, join_append, List.drop_left]; rfl
    have hyc : (10 : UInt8) ∉ y := hc y (by rw [e]; simp)
    have hlen : s.data.toList.length = (join pre).length + (y.length + 1 + (join t).length) := by
      rw [hj, e, join_append]; simp [join]; omega
    have hn : pre.length + 1 ≤ 600 := by have := congrArg List.length e; simp at this; omega
    have h1 := lines_loop2 hs ys hc hj hy hl hend t (pre ++ [y]) (by rw [e]; simp)
    have hlp : (join (pre ++ [y])).length = (join pre).length + y.length + 1 := by rw [join_append]; simp [join]; omega
    have hpl : (pre ++ [y]).length = pre.length + 1 := by simp
    rw [hlp, hpl] at h1
    have hP : ∀ j, j = pre.length + 1 → FlP ys j = (join pre).length + y.length + 1 := by
      intro j hj'
      unfold FlP
      rw [← hlp]
      congr 2
      rw [e, hj', show pre ++ y :: t = (pre ++ [y]) ++ t by simp, ← hpl, List.take_left]
    refine flSkip s c ln R hs y.length _ _ _ _ (fun t' ht' => ?_) ?_
    · have hlt : (join pre).length + t' < s.data.toList.length := by omega
      refine ⟨hlt, ?_⟩
      have h4 : (s.data.toList.drop (join pre).length)[t']? = some y[t'] := by rw [hd, List.getElem?_append_left ht', List.getElem?_eq_getElem ht']
      rw [List.getElem?_drop, List.getElem?_eq_getElem hlt] at h4
      rw [Option.some.inj h4]
      intro e10
      apply hyc; rw [← e10]; exact List.getElem_mem _
    · have hlt : (join pre).length + y.length < s.data.toList.length := by omega
      have h4 : (s.data.toList.drop (join pre).length)[y.length]? = some 10 := by rw [hd, List.getElem?_append_right (Nat.le_refl _), Nat.sub_self]; rfl
      rw [List.getElem?_drop, List.getElem?_eq_getElem hlt] at h4
      refine flNewline s c ln R hs _ _ _ _ hlt (Option.some.inj h4) (by omega) (by omega) ?_
      have eb : (if pre.length + 1 = ln then (((join pre).length + y.length + 1 : Nat) : Int) else (if ln ≤ pre.length then (FlP ys ln : Int) else 0)) = (if ln ≤ pre.length + 1 then (FlP ys ln : Int) else 0) := by
        by_cases e1 : pre.length + 1 = ln
        · rw [if_pos e1, if_pos (by omega), hP ln e1.symm]
        · rw [if_neg e1]
          by_cases e2 : ln ≤ pre.length
          · rw [if_pos e2, if_pos (by omega)]
          · rw [if_neg e2, if_neg (by omega)]
      have ea : (if pre.length + 1 = ln - 1 then (((join pre).length + y.length + 1 : Nat) : Int) else (if ln - 1 ≤ pre.length then (FlP ys (ln - 1) : Int) else 0)) = (if ln - 1 ≤ pre.length + 1 then (FlP ys (ln - 1) : Int) else 0) := by
        by_cases e1 : pre.length + 1 = ln - 1
        · rw [if_pos e1, if_pos (by omega), hP (ln - 1) e1.symm]
        · rw [if_neg e1]
          by_cases e2 : ln - 1 ≤ pre.length
          · rw [if_pos e2, if_pos (by omega)]
          · rw [if_neg e2, if_neg (by omega)]
      rw [eb, ea]
      exact h1
end
theorem cut_bs (s : ByteArray) (ys : List (List UInt8)) (hj : s.data.toList = join ys) (j : Nat) : s.extract 0 (FlP ys j) = bs (join (ys.take j)) := by
  rw [ext_bs, hj, List.drop_zero, Nat.sub_zero]
  unfold FlP
  conv => lhs; rw [← List.take_append_drop j ys]
  rw [join_append, List.take_append_drop, List.take_left]
theorem FlP_le (s : ByteArray) (ys : List (List UInt8)) (hj : s.data.toList = join ys) (j : Nat) : FlP ys j ≤ s.size := by
  have hsz : s.size = s.data.toList.length := by rw [Array.length_toList]; rfl
  have : (join ys).length = (join (ys.take j)).length + (join (ys.drop j)).length := by
    rw [← List.length_append, ← join_append, List.take_append_drop]
  rw [hsz, hj]; unfold FlP; omega
/-- A text that is refused at a line. -/
theorem flCut (s : ByteArray) (h : (asm s).2.2.1 = 2 ∨ (asm s).2.2.1 = 3 ∨ (asm s).2.2.1 = 4) : Evt (fun k => laws_FnFaultLine.l0 k s (asm s).2.2.1 (asm s).2.2.2 0 0 0 0) true := by
  by_cases hc : impl_assemble.fit s = true ∧ (impl_assemble.lines s).length ≤ 600
  case neg =>
    exfalso
    have : (asm s).2.2.1 = 1 := by unfold asm; rw [if_neg hc]
    omega
  case pos =>
    have hj := fit_join hc.1
    have hsz := (fit_parts hc.1).1
    have hcl := ysOf_clean s
    have hn : (ysOf s).length ≤ 600 := by have := hc.2; rw [lines_ys] at this; simpa using this
    have ha := asm_fit hc.1 hc.2
    generalize ysOf s = ys at hj hcl hn ha
    by_cases h0 : (p1 (rsOf ys) 0 0 []).2.1 = 0
    · exfalso
      have := fin2_code (rsOf ys) _ h0
      rw [← ha] at this
      omega
    · obtain ⟨j, j1, j2, j3, j4⟩ := p1_cut (rsOf ys) 0 0 [] h0
      have hf : ∀ q : LB × Int × Int, ∀ rs, q.2.1 ≠ 0 → (fin2 rs q).2.2 = q.2 := by
        intro q rs hq
        unfold fin2
        rw [if_neg hq]
      have hrl : (rsOf ys).length = ys.length := by unfold rsOf; simp
      have hq := hf _ (rsOf ys) h0
      rw [← ha] at hq
      rw [hq, j2]
      have hjl : j + 1 ≤ ys.length := by omega
      have tl : ∀ m, (join (ys.take m)).length ≤ 20000 := fun m => Nat.le_trans (FlP_le s ys hj m) hsz
      have tn : ∀ m, (ys.take m).length ≤ 600 := fun m => by rw [List.length_take]; omega
      have b1 : (asm (bs (join (ys.take (j + 1))))).2.2 = (p1 (rsOf ys) 0 0 []).2 := by
        rw [asm_of _ (clean_take hcl _) (tl _) (tn _), rsOf_take, j3]
        exact hf _ _ h0
      have b2 : (asm (bs (join (ys.take j)))).2.2.1 = 0 ∨ (asm (bs (join (ys.take j)))).2.2.1 = 5 := by
        rw [asm_of _ (clean_take hcl _) (tl _) (tn _), rsOf_take]
        exact fin2_code _ _ j4
      have e0 : (0 : Nat) + (j : Int) + 1 = ((j + 1 : Nat) : Int) := by omega
      have i1 := impl_all (bs (join (ys.take (j + 1)))) (by rw [bs_size]; have := tl (j + 1); omega)
      have i2 := impl_all (bs (join (ys.take j))) (by rw [bs_size]; have := tl j; omega)
      rw [b1, j2] at i1
      rw [show ((0 : Nat) : Int) + (j : Int) + 1 = ((j + 1 : Nat) : Int) by omega] at i1 ⊢
      have hend : FlAt s (p1 (rsOf ys) 0 0 []).2.1 (j + 1) true ys.length (FlP ys (j + 1)) (FlP ys (j + 1 - 1)) s.size := by
        refine ev_end fun k => ?_
        simp only [laws_FnFaultLine.l0]
        rw [if_neg (by omega), if_pos (by omega), if_pos (by have := FlP_le s ys hj (j + 1); omega), Int.toNat_natCast, cut_bs s ys hj]
        unfold impl_Assemble.f
        rw [i1]
        simp only [Option.bind_some]
        rw [if_pos (by omega), if_pos (by have := FlP_le s ys hj (j + 1 - 1); omega), Int.toNat_natCast, cut_bs s ys hj, Nat.add_sub_cancel, i2]
        simp only [Option.bind_some, if_true]
        rcases b2 with b2 | b2
        · rw [b2, if_pos rfl]
        · rw [b2, if_neg (by decide)]; rfl
      have := lines_loop2 s (p1 (rsOf ys) 0 0 []).2.1 (j + 1) true hsz ys hcl hj hn ⟨by omega, hjl⟩ hend ys [] rfl
      unfold FlAt at this
      simp only [List.length_nil, join] at this
      rw [if_neg (by omega)] at this
      have ez : (if j + 1 - 1 ≤ 0 then (FlP ys (j + 1 - 1) : Int) else 0) = 0 := by
        split
        · rename_i h9
          rw [show j + 1 - 1 = 0 by omega]; rfl
        · rfl
      rw [ez] at this
      exact this
theorem flWhole (l0 : List Int) (hb : l0.length ≤ 4611686018427387904) : Evt (fun k => laws_FnFaultLine.f k l0) true := by
  unfold laws_FnFaultLine.f laws_big.f
  simp only [Option.bind_some]
  by_cases hbig : (l0.length : Int) > 1048576
  · simp only [decide_eq_true hbig, if_true]; exact ev_of fun _ => rfl
  · simp only [decide_eq_false hbig, Bool.false_eq_true, if_false]
    obtain ⟨s, hs, hd⟩ := any_some l0 hb
    have hdr : Evt (fun k => spec_DrawAssemble.f k l0) s := by
      unfold spec_DrawAssemble.f
      exact ev_bind hd (ev_of fun _ => rfl)
    refine ev_bind hdr ?_
    have hsp : Evt (fun k => spec_Assemble.f k s) ((asm s).1, (asm s).2.2.1, (asm s).2.2.2) := by
      unfold spec_Assemble.f
      exact ev_bind (spec_all s (by omega)) (ev_of fun _ => rfl)
    refine ev_bind hsp ?_
    unfold impl_Assemble.f
    rw [impl_all s (by omega)]
    simp only [Option.bind_some, if_true, bne_self_eq_false]
    have hcut := flCut s
    generalize hc : (asm s).2.2.1 = c at hcut ⊢
    generalize (asm s).2.2.2 = line at hcut ⊢
    by_cases c2 : c = 2
    · have := hcut (.inl c2)
      refine ev_step (g := fun k => laws_FnFaultLine.j1 k s c line false) (fun k => by simp only [laws_FnFaultLine.j0]; rw [if_neg (by simp), if_pos c2]) ?_
      exact ev_step (fun k => by simp only [laws_FnFaultLine.j1]; rw [if_neg (by simp)]) this
    · by_cases c3 : c = 3
      · have := hcut (.inr (.inl c3))
        refine ev_step (g := fun k => laws_FnFaultLine.j1 k s c line false) (fun k => by simp only [laws_FnFaultLine.j0]; rw [if_neg (by simp), if_neg c2, if_pos c3]) ?_
        exact ev_step (fun k => by simp only [laws_FnFaultLine.j1]; rw [if_neg (by simp)]) this
      · refine ev_step (g := fun k => laws_FnFaultLine.j1 k s c line (c != 4)) (fun k => by simp only [laws_FnFaultLine.j0]; rw [if_neg (by simp), if_neg c2, if_neg c3]) ?_
        by_cases c4 : c = 4
        · have := hcut (.inr (.inr c4))
          refine ev_step (fun k => ?_) this
          simp only [laws_FnFaultLine.j1]
          rw [if_neg (by simp [c4])]
        · refine ev_end fun k => ?_
          simp only [laws_FnFaultLine.j1]
          rw [if_pos (bne_iff_ne.2 c4)]
end Go.Proofs.YtaophlekfepkgaaGreatDoor.PFnFaultLine
namespace Go.Proofs.YtaophlekfepkgaaGreatDoor.Pure
open Go.RowKit Go.Proofs.YtaophlekfepkgaaGreatDoor.PFnFaultLine Go.Proofs.YtaophlekfepkgaaGreatDoorW.PrintWords Go.Proofs.YtaophlekfepkgaaGreatDoorW.PrintLast Go.Proofs.YtaophlekfepkgaaGreatDoor.Lem
theorem FnFaultLine : laws_FnFaultLine.Pure := by
  intro l0 hl _ _
  obtain ⟨K, hK⟩ := flWhole l0 (by unfold maxLen at hl; omega)
  exact ⟨K, hK K (Nat.le_refl K)⟩

end Go.Proofs.YtaophlekfepkgaaGreatDoor.Pure

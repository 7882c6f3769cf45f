/- A text assembled, in both, over the print of the law FnExactLabelsOf: the first pass, and the program's one pass with its branches behind. -/
import Derived.Test.YtaophlekfepkgaaGreatDoorAsmCFnExactLabelsOf
namespace Go.Proofs.YtaophlekfepkgaaGreatDoor.PFnExactLabelsOf
open Go.RowKit Go.Proofs.YtaophlekfepkgaaGreatDoorW.PrintWords Go.Proofs.YtaophlekfepkgaaGreatDoorW.PrintLast Go.Proofs.YtaophlekfepkgaaGreatDoor.Lem

/-- Both passes, behind the first one's answer. -/
def fin2 (rs : List RL) (q : LB × Int × Int) : List Int × LB × Int × Int :=
  if q.2.1 = 0 then ((p2 q.1 rs 0 []).1, q.1, (p2 q.1 rs 0 []).2.1, (p2 q.1 rs 0 []).2.2) else ([], q.1, q.2.1, q.2.2)
theorem vals_snoc {lb : LB} (hv : Vals lb) (s : ByteArray) (n : Nat) (hn : n ≤ 256) : Vals (lb ++ [(s, (n : Int))]) := by
  intro p hp
  rcases List.mem_append.1 hp with hp | hp
  · exact hv p hp
  · rw [List.mem_singleton.1 hp]; omega
/-- The reference's first pass. -/
theorem spec_p1 (xs : List ByteArray) (hx : xs.length ≤ 600) : ∀ d i : Nat, i + d = xs.length → ∀ (n : Nat) (lb : LB), n ≤ 256 → lb.length ≤ i → Vals lb →
    Evt (fun k => spec_l03All.l0 k [] (toS lb) xs n i) ((fin2 (xs.map rOf) (p1 ((xs.drop i).map rOf) i n lb)).1, toS (fin2 (xs.map rOf) (p1 ((xs.drop i).map rOf) i n lb)).2.1, (fin2 (xs.map rOf) (p1 ((xs.drop i).map rOf) i n lb)).2.2.1, (fin2 (xs.map rOf) (p1 ((xs.drop i).map rOf) i n lb)).2.2.2) := by
  intro d
  induction d with
  | zero =>
    intro i hi n lb hn hl hv
    have h2 := spec_p2 xs hx lb (by omega) hv xs.length 0 (by omega) [] (by simp)
    rw [List.drop_zero] at h2
    refine ev_step (g := fun k => spec_l03All.l1 k [] (toS lb) xs ((0 : Nat) : Int)) (fun k => ?_) ?_
    · simp only [spec_l03All.l0]
      rw [if_neg (by omega)]; rfl
    · rw [List.drop_eq_nil_of_le (by omega)]
      exact h2
  | succ d ih =>
    intro i hi n lb hn hl hv
    have hlt : i < xs.length := by omega
    have hr := rOf_spec xs[i]
    rw [dropr xs i hlt]
    generalize rOf xs[i] = r at hr
    obtain ⟨k, op, a, b, c, imm, word, lab⟩ := r
    have hwi2 : wrap64 ((i : Int) + 1) = (i : Int) + 1 := w64 (by omega) (by omega)
    have hwn : wrap64 ((n : Int) + 1) = ((n + 1 : Nat) : Int) := by rw [w64 (by omega) (by omega)]; omega
    have step : ∀ R : List Int × List S67 × Int × Int, Evt (fun k_ => (if k = 0 then (some ((([] : List Int)), toS lb, 2, (i : Int) + 1)) else (if k = 1 then ((spec_l03Find.f k_ (toS lb) lab).bind fun t212 => (spec_l03All.j1 k_ [] (toS lb) xs n i (decide (t212 ≥ 0)) k op a b c imm word lab)) else (spec_l03All.j1 k_ [] (toS lb) xs n i false k op a b c imm word lab)))) R →
        Evt (fun k_ => spec_l03All.l0 k_ [] (toS lb) xs n i) R := by
      intro R hR
      refine ev_step (g := fun k_ => (spec_ReadLine.f k_ xs[i]).bind fun bt200 => (if bt200.1 = 0 then (some ((([] : List Int)), toS lb, 2, wrap64 ((i : Int) + 1))) else (if bt200.1 = 1 then ((spec_l03Find.f k_ (toS lb) bt200.2.2.2.2.2.2.2).bind fun t212 => (spec_l03All.j1 k_ [] (toS lb) xs n i (decide (t212 ≥ 0)) bt200.1 bt200.2.1 bt200.2.2.1 bt200.2.2.2.1 bt200.2.2.2.2.1 bt200.2.2.2.2.2.1 bt200.2.2.2.2.2.2.1 bt200.2.2.2.2.2.2.2)) else (spec_l03All.j1 k_ [] (toS lb) xs n i false bt200.1 bt200.2.1 bt200.2.2.1 bt200.2.2.2.1 bt200.2.2.2.2.1 bt200.2.2.2.2.2.1 bt200.2.2.2.2.2.2.1 bt200.2.2.2.2.2.2.2)))) (fun k_ => ?_) (ev_bind hr ?_)
      · simp only [spec_l03All.l0]
        rw [if_pos (by omega), if_pos (by omega), rdx xs i hlt]
      · rw [hwi2]; exact hR
    refine step _ ?_
    unfold p1
    by_cases k0 : k = 0
    · simp only [if_pos k0]
      exact ev_of fun _ => rfl
    · simp only [if_neg k0]
      by_cases k1 : k = 1
      · simp only [if_pos k1]
        have hf := find_spec lb (by omega) lab
        refine ev_bind hf ?_
        cases hfd : impl_assemble.find lb lab with
        | some x =>
          have hx2 := find_val hv hfd
          refine ev_end fun k_ => ?_
          simp only [spec_l03All.j1, Option.getD_some, Option.isSome_some, if_true]
          rw [if_pos (decide_eq_true (show x ≥ 0 by omega)), hwi2]; rfl
        | none =>
          have h1 := ih (i + 1) (by omega) n (lb ++ [(lab, (n : Int))]) hn (by simp; omega) (vals_snoc hv lab n hn)
          refine ev_step (fun k_ => ?_) h1
          simp only [spec_l03All.j1, Option.getD_none]
          rw [if_neg (show ¬ decide ((-1 : Int) ≥ 0) = true by simp), if_pos k1, if_pos (by unfold toS; rw [List.length_map]; omega), hwi2, toS_append]; rfl
      · simp only [if_neg k1]
        by_cases hn2 : n = 256
        · simp only [if_pos hn2]
          refine ev_end fun k_ => ?_
          simp only [spec_l03All.j1]
          rw [if_neg (by simp), if_neg k1, if_pos (by omega), hwi2]; rfl
        · simp only [if_neg hn2]
          have h1 := ih (i + 1) (by omega) (n + 1) lb (by omega) (by omega) hv
          refine ev_step (fun k_ => ?_) h1
          simp only [spec_l03All.j1]
          rw [if_neg (by simp), if_neg k1, if_neg (by omega), hwi2, hwn]; rfl
/-- The branches of the lines, and the words with room for them. -/
def brsOf : List RL → Nat → Nat → List impl_assemble.Br
  | [], _, _ => []
  | r :: t, i, n => if r.1 = 1 then brsOf t (i + 1) n else if r.1 = 4 then ⟨(i : Int) + 1, (n : Int), RL.op r, RL.a r, RL.b r, RL.c r, RL.imm r, RL.lab r⟩ :: brsOf t (i + 1) (n + 1) else brsOf t (i + 1) (n + 1)
def wsOf : List RL → List Int
  | [] => []
  | r :: t => if r.1 = 1 then wsOf t else if r.1 = 3 then encw (RL.op r) (RL.a r) (RL.b r) (RL.c r) (RL.imm r) :: wsOf t else RL.word r :: wsOf t
/-- The program's pass over the lines. -/
theorem impl_p1 (lbx : LB) : ∀ (xs : List ByteArray) (i : Nat) (ws : List Int) (lb : LB) (br : List impl_assemble.Br), impl_assemble.l0 xs i ws lb br =
    (if (p1 (xs.map rOf) i ws.length lb).2.1 = 0 then impl_assemble.l1 (p1 (xs.map rOf) i ws.length lb).1 (br ++ brsOf (xs.map rOf) i ws.length) (ws ++ wsOf (xs.map rOf)) else some ([], (p1 (xs.map rOf) i ws.length lb).2.1, (p1 (xs.map rOf) i ws.length lb).2.2))
  | [], i, ws, lb, br => by
    unfold impl_assemble.l0
    simp only [List.map_nil, p1, brsOf, wsOf, List.append_nil, if_true]
  | x :: t, i, ws, lb, br => by
    have ih := impl_p1 lbx t (i + 1)
    unfold impl_assemble.l0
    have hk := rOf_kp x
    rw [rOf_impl x, Option.bind_some, List.map_cons]
    generalize rOf x = r at hk
    obtain ⟨k, op, a, b, c, imm, word, lab⟩ := r
    unfold p1 brsOf wsOf
    dsimp only
    by_cases k0 : k = 0
    · simp only [if_pos k0]
      rw [if_neg (by decide)]
    · simp only [if_neg k0]
      by_cases k1 : k = 1
      · simp only [if_pos k1]
        cases hfd : impl_assemble.find lb lab with
        | some y => simp only [Option.isSome_some, if_true]; rw [if_neg (by decide)]
        | none => simp only [Option.isSome_none, Bool.false_eq_true, if_false]; exact ih ws (lb ++ [(lab, (ws.length : Int))]) br
      · simp only [if_neg k1]
        by_cases hw : ws.length = 256
        · simp only [if_pos hw]; rw [if_neg (by decide)]
        · simp only [if_neg hw]
          by_cases k4 : k = 4
          · simp only [if_pos k4, if_neg (show ¬ k = 3 by omega)]
            rw [ih]
            simp only [List.length_append, List.length_singleton, List.append_assoc, List.singleton_append]
          · simp only [if_neg k4]
            by_cases k3 : k = 3
            · have he := encw_impl (hk.i k3)
              dsimp only at he
              simp only [if_pos k3, he, Option.bind_some]
              rw [ih]
              simp only [List.length_append, List.length_singleton, List.append_assoc, List.singleton_append]
            · simp only [if_neg k3]
              rw [ih]
              simp only [List.length_append, List.length_singleton, List.append_assoc, List.singleton_append]
theorem set_mid (W : List Int) (x y : Int) (t : List Int) (n : Nat) (hn : W.length = n) : (W ++ x :: t).set ((n : Int)).toNat y = W ++ [y] ++ t := by
  subst hn
  rw [Int.toNat_natCast, List.set_append, if_neg (by omega), Nat.sub_self, List.set_cons_zero, List.append_assoc]; rfl
/-- The program's pass over the branches. -/
theorem impl_p2 (lb : LB) (hv : Vals lb) : ∀ (xs : List ByteArray) (i : Nat) (W : List Int), W.length + xs.length ≤ 1000 → (∀ x ∈ xs, (rOf x).1 ≠ 0) →
    impl_assemble.l1 lb (brsOf (xs.map rOf) i W.length) (W ++ wsOf (xs.map rOf)) = some (p2 lb (xs.map rOf) i W)
  | [], i, W, _, _ => by
    simp only [List.map_nil, brsOf, wsOf, p2, List.append_nil, impl_assemble.l1]
  | x :: t, i, W, hl, hz => by
    have ih := impl_p2 lb hv t (i + 1)
    have hk := rOf_kp x
    have hz0 := hz x (by simp)
    rw [List.map_cons]
    generalize rOf x = r at hk hz0
    obtain ⟨k, op, a, b, c, imm, word, lab⟩ := r
    have hz1 : ∀ x ∈ t, (rOf x).1 ≠ 0 := fun y hy => hz y (List.mem_cons_of_mem _ hy)
    have hlen : W.length + 1 + t.length ≤ 1000 := by rw [List.length_cons] at hl; omega
    unfold brsOf wsOf p2
    dsimp only at hz0 ⊢
    have hk5 := hk.k
    dsimp only at hk5
    by_cases k1 : k = 1
    · simp only [if_pos k1, if_neg (show ¬ k = 2 by omega), if_neg (show ¬ k = 3 by omega), if_neg (show ¬ k = 4 by omega)]
      exact ih W (by omega) hz1
    · simp only [if_neg k1]
      by_cases k4 : k = 4
      · simp only [if_pos k4, if_neg (show ¬ k = 3 by omega), if_neg (show ¬ k = 2 by omega)]
        unfold impl_assemble.l1
        dsimp only
        cases hfd : impl_assemble.find lb lab with
        | none => rfl
        | some y =>
          have hy := find_val hv hfd
          have he := encw_impl (hk.b k4 (y - (W.length : Int) - 1) (by omega))
          dsimp only at he
          dsimp only
          rw [imm_is, decide_eq_true (show -8192 ≤ y - (W.length : Int) - 1 ∧ y - (W.length : Int) - 1 ≤ 8191 by omega), Option.bind_some, if_pos rfl, he, Option.bind_some, set_mid W word _ _ W.length rfl]
          have := ih (W ++ [encw op a b c (y - (W.length : Int) - 1)]) (by rw [List.length_append, List.length_singleton]; omega) hz1
          rw [List.length_append, List.length_singleton] at this
          exact this
      · simp only [if_neg k4]
        by_cases k3 : k = 3
        · simp only [if_pos k3, if_neg (show ¬ k = 2 by omega)]
          have := ih (W ++ [encw op a b c imm]) (by rw [List.length_append, List.length_singleton]; omega) hz1
          rw [List.length_append, List.length_singleton, List.append_assoc, List.singleton_append] at this
          exact this
        · simp only [if_neg k3, if_pos (show k = 2 by omega)]
          have := ih (W ++ [word]) (by rw [List.length_append, List.length_singleton]; omega) hz1
          rw [List.length_append, List.length_singleton, List.append_assoc, List.singleton_append] at this
          exact this
/-- Where the first pass ends well. -/
theorem p1_ok : ∀ (rs : List RL) (i n : Nat) (lb : LB), n ≤ 256 → Vals lb → (p1 rs i n lb).2.1 = 0 → (∀ r ∈ rs, r.1 ≠ 0) ∧ Vals (p1 rs i n lb).1
  | [], _, _, lb, _, hv, _ => ⟨by simp, hv⟩
  | r :: t, i, n, lb, hn, hv, h => by
    unfold p1 at h ⊢
    by_cases k0 : r.1 = 0
    · rw [if_pos k0] at h; exact ne_of 2 0 (by decide) h
    · rw [if_neg k0] at h ⊢
      by_cases k1 : r.1 = 1
      · rw [if_pos k1] at h ⊢
        split at h
        · exact ne_of 3 0 (by decide) h
        · rename_i hs
          rw [if_neg hs]
          obtain ⟨h1, h2⟩ := p1_ok t (i + 1) n _ hn (vals_snoc hv (RL.lab r) n hn) h
          exact ⟨fun q hq => by rcases List.mem_cons.1 hq with rfl | hq; · exact k0
                                · exact h1 q hq, h2⟩
      · rw [if_neg k1] at h ⊢
        by_cases hn2 : n = 256
        · rw [if_pos hn2] at h; exact ne_of 4 0 (by decide) h
        · rw [if_neg hn2] at h ⊢
          obtain ⟨h1, h2⟩ := p1_ok t (i + 1) (n + 1) lb (by omega) hv h
          exact ⟨fun q hq => by rcases List.mem_cons.1 hq with rfl | hq; · exact k0
                                · exact h1 q hq, h2⟩
/-- A text assembled: words, labels, a code, a line. -/
def asm (s : ByteArray) : List Int × LB × Int × Int :=
  if impl_assemble.fit s = true ∧ (impl_assemble.lines s).length ≤ 600 then fin2 ((impl_assemble.lines s).map rOf) (p1 ((impl_assemble.lines s).map rOf) 0 0 []) else ([], [], 1, 0)
theorem spec_all (s : ByteArray) (hs : s.size ≤ 9223372036854775807) : Evt (fun k => spec_l03All.f k s) ((asm s).1, toS (asm s).2.1, (asm s).2.2.1, (asm s).2.2.2) := by
  have h := lines_is s hs
  unfold spec_l03All.f asm
  simp only [Option.bind_some]
  by_cases hc : impl_assemble.fit s = true ∧ (impl_assemble.lines s).length ≤ 600
  · rw [if_pos hc] at h ⊢
    refine ev_bind h ?_
    simp only [if_true]
    have h1 := spec_p1 (impl_assemble.lines s) hc.2 (impl_assemble.lines s).length 0 (by omega) 0 [] (by omega) (by simp) (by intro p hp; simp at hp)
    rw [List.drop_zero] at h1
    exact h1
  · rw [if_neg hc] at h ⊢
    refine ev_bind h (ev_of fun _ => ?_)
    rfl
theorem impl_all (s : ByteArray) (hs : s.size ≤ 9223372036854775807) : impl_assemble.f s = some ((asm s).1, (asm s).2.2.1, (asm s).2.2.2) := by
  unfold impl_assemble.f asm
  rw [if_pos hs]
  by_cases hc : impl_assemble.fit s = true ∧ (impl_assemble.lines s).length ≤ 600
  · rw [if_pos hc, if_pos hc, impl_p1 []]
    unfold fin2
    have hl := hc.2
    generalize impl_assemble.lines s = xs at *
    show (if (p1 (xs.map rOf) 0 0 []).2.1 = 0 then impl_assemble.l1 (p1 (xs.map rOf) 0 0 []).1 ([] ++ brsOf (xs.map rOf) 0 0) ([] ++ wsOf (xs.map rOf)) else some ([], (p1 (xs.map rOf) 0 0 []).2.1, (p1 (xs.map rOf) 0 0 []).2.2)) = _
    by_cases h0 : (p1 (xs.map rOf) 0 0 []).2.1 = 0
    · rw [if_pos h0, if_pos h0]
      obtain ⟨h1, h2⟩ := p1_ok _ 0 0 [] (by omega) (by intro p hp; simp at hp) h0
      have := impl_p2 (p1 (xs.map rOf) 0 0 []).1 h2 xs 0 [] (by simp; omega) (fun x hx => h1 _ (List.mem_map_of_mem hx))
      exact this
    · rw [if_neg h0, if_neg h0]
  · rw [if_neg hc, if_neg hc]

end Go.Proofs.YtaophlekfepkgaaGreatDoor.PFnExactLabelsOf

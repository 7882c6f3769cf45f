/- Texts as lines, over the print of the law FnFaultLine: lines set together, cut, assembled. -/
import Derived.Test.YtaophlekfepkgaaGreatDoorAsmDFnFaultLine
namespace Go.Proofs.YtaophlekfepkgaaGreatDoor.PFnFaultLine
open Go.RowKit Go.Proofs.YtaophlekfepkgaaGreatDoorW.PrintWords Go.Proofs.YtaophlekfepkgaaGreatDoorW.PrintLast Go.Proofs.YtaophlekfepkgaaGreatDoor.Lem

/-- Lines, each with its newline. -/
def join : List (List UInt8) → List UInt8
  | [] => []
  | y :: t => y ++ 10 :: join t
def Clean (ys : List (List UInt8)) : Prop := ∀ y ∈ ys, (10 : UInt8) ∉ y
theorem join_append (a b : List (List UInt8)) : join (a ++ b) = join a ++ join b := by
  induction a with
  | nil => rfl
  | cons y t ih => simp [join, ih]
theorem sp_join : ∀ ys, Clean ys → SplitN.sp (join ys) = ys ++ [[]]
  | [], _ => rfl
  | y :: t, h => by
    rw [join, SplitN.sp_app y (join t) (h y (by simp)), sp_join t (fun z hz => h z (List.mem_cons_of_mem _ hz))]; rfl
theorem clean_take {ys : List (List UInt8)} (h : Clean ys) (j : Nat) : Clean (ys.take j) := fun y hy => h y (List.mem_of_mem_take hy)
/-- A text is its lines and a rest. -/
theorem join_rest : ∀ l : List UInt8, ∃ ys z, SplitN.sp l = ys ++ [z] ∧ l = join ys ++ z
  | [] => ⟨[], [], rfl, rfl⟩
  | c :: r => by
    obtain ⟨ys, z, e1, e2⟩ := join_rest r
    by_cases h : c = 10
    · subst h
      exact ⟨[] :: ys, z, by rw [SplitN.sp, if_pos rfl, e1]; rfl, by simp [join, ← e2]⟩
    · cases ys with
      | nil => exact ⟨[], c :: z, by rw [SplitN.sp, if_neg h, e1]; rfl, by rw [e2]; rfl⟩
      | cons y t => exact ⟨(c :: y) :: t, z, by rw [SplitN.sp, if_neg h, e1]; rfl, by rw [e2]; rfl⟩
def ysOf (s : ByteArray) : List (List UInt8) := (SplitN.sp s.data.toList).dropLast
theorem ysOf_clean (s : ByteArray) : Clean (ysOf s) := fun y hy => SplitN.sp_clean _ y (List.dropLast_subset _ hy)
theorem lines_ys (s : ByteArray) : impl_assemble.lines s = (ysOf s).map bs := lines_sp s
theorem fit_parts {s : ByteArray} (h : impl_assemble.fit s = true) : s.size ≤ 20000 ∧ (s.data.toList = [] ∨ s.data.toList.getLast? = some 10) := by
  unfold impl_assemble.fit at h
  rw [Bool.and_eq_true, Bool.or_eq_true, decide_eq_true_eq] at h
  refine ⟨h.1, ?_⟩
  rcases h.2 with h | h
  · left; rw [ByteArray.toList_eq] at h; simpa using h
  · right; rw [ends_is] at h; simpa using h
theorem fit_join {s : ByteArray} (h : impl_assemble.fit s = true) : s.data.toList = join (ysOf s) := by
  obtain ⟨ys, z, e1, e2⟩ := join_rest s.data.toList
  have hz : (10 : UInt8) ∉ z := SplitN.sp_clean s.data.toList z (by rw [e1]; simp)
  have e3 : ysOf s = ys := by unfold ysOf; rw [e1]; simp
  rw [e3, e2]
  have : z = [] := by
    rcases List.eq_nil_or_concat z with h0 | ⟨a, c, rfl⟩
    · exact h0
    · exfalso
      rw [List.concat_eq_append] at e2 hz
      rcases (fit_parts h).2 with h1 | h1
      · rw [h1] at e2; simp at e2
      · rw [e2] at h1
        simp at h1
        apply hz; rw [h1]; simp
  rw [this, List.append_nil]
theorem join_last : ∀ ys : List (List UInt8), join ys = [] ∨ (join ys).getLast? = some 10
  | [] => .inl rfl
  | y :: t => by
    right
    rw [join]
    rcases join_last t with h | h
    · rw [h]; simp
    · rw [List.getLast?_append, List.getLast?_cons, h]; rfl
theorem fit_of (ys : List (List UInt8)) (h : (join ys).length ≤ 20000) : impl_assemble.fit (bs (join ys)) = true := by
  unfold impl_assemble.fit
  rw [Bool.and_eq_true, Bool.or_eq_true, decide_eq_true_eq, bs_size]
  refine ⟨h, ?_⟩
  rcases join_last ys with h1 | h1
  · left; rw [ByteArray.toList_eq, data_bs, h1]; rfl
  · right; rw [ends_is, data_bs, h1]; rfl
theorem lines_of (ys : List (List UInt8)) (hc : Clean ys) : impl_assemble.lines (bs (join ys)) = ys.map bs := by
  rw [lines_ys]
  unfold ysOf
  rw [data_bs, sp_join ys hc]; simp
/-- What lines are. -/
def rsOf (ys : List (List UInt8)) : List RL := (ys.map bs).map rOf
theorem asm_of (ys : List (List UInt8)) (hc : Clean ys) (hl : (join ys).length ≤ 20000) (hn : ys.length ≤ 600) : asm (bs (join ys)) = fin2 (rsOf ys) (p1 (rsOf ys) 0 0 []) := by
  unfold asm
  rw [fit_of ys hl, lines_of ys hc, if_pos ⟨rfl, by simpa using hn⟩]; rfl
theorem asm_fit {s : ByteArray} (h : impl_assemble.fit s = true) (hn : (impl_assemble.lines s).length ≤ 600) : asm s = fin2 (rsOf (ysOf s)) (p1 (rsOf (ysOf s)) 0 0 []) := by
  unfold asm
  rw [if_pos ⟨h, hn⟩, lines_ys]; rfl
theorem rsOf_take (ys : List (List UInt8)) (j : Nat) : rsOf (ys.take j) = (rsOf ys).take j := by unfold rsOf; rw [List.map_take, List.map_take]
/-- Where the first pass falls: the lines up to there fall so, too, and those ahead do not. -/
theorem p1_cut : ∀ (rs : List RL) (i n : Nat) (lb : LB), (p1 rs i n lb).2.1 ≠ 0 → ∃ j, j < rs.length ∧ (p1 rs i n lb).2.2 = (i : Int) + j + 1 ∧ p1 (rs.take (j + 1)) i n lb = p1 rs i n lb ∧ (p1 (rs.take j) i n lb).2.1 = 0
  | [], _, _, _, h => absurd rfl h
  | r :: t, i, n, lb, h => by
    have here : ∀ q : LB × Int × Int, q.2.2 = (i : Int) + 1 → p1 (r :: t) i n lb = q → p1 [r] i n lb = q → ∃ j, j < (r :: t).length ∧ (p1 (r :: t) i n lb).2.2 = (i : Int) + j + 1 ∧ p1 ((r :: t).take (j + 1)) i n lb = p1 (r :: t) i n lb ∧ (p1 ((r :: t).take j) i n lb).2.1 = 0 := by
      intro q h1 h2 h3
      exact ⟨0, by simp, by rw [h2, h1]; simp, by rw [h2]; exact h3, rfl⟩
    have next : ∀ (n' : Nat) (lb' : LB), (∀ u, p1 (r :: u) i n lb = p1 u (i + 1) n' lb') → (p1 t (i + 1) n' lb').2.1 ≠ 0 → ∃ j, j < (r :: t).length ∧ (p1 (r :: t) i n lb).2.2 = (i : Int) + j + 1 ∧ p1 ((r :: t).take (j + 1)) i n lb = p1 (r :: t) i n lb ∧ (p1 ((r :: t).take j) i n lb).2.1 = 0 := by
      intro n' lb' hu h2
      obtain ⟨j, j1, j2, j3, j4⟩ := p1_cut t (i + 1) n' lb' h2
      refine ⟨j + 1, by simp; omega, ?_, ?_, ?_⟩
      · rw [hu, j2]; omega
      · rw [List.take_succ_cons, hu, hu, j3]
      · rw [List.take_succ_cons, hu, j4]
    by_cases k0 : r.1 = 0
    · exact here (lb, 2, (i : Int) + 1) rfl (by rw [p1, if_pos k0]) (by rw [p1, if_pos k0])
    · by_cases k1 : r.1 = 1
      · by_cases hf : (impl_assemble.find lb (RL.lab r)).isSome = true
        · exact here (lb, 3, (i : Int) + 1) rfl (by rw [p1, if_neg k0, if_pos k1, if_pos hf]) (by rw [p1, if_neg k0, if_pos k1, if_pos hf])
        · have hu : ∀ u, p1 (r :: u) i n lb = p1 u (i + 1) n (lb ++ [(RL.lab r, (n : Int))]) := fun u => by rw [p1, if_neg k0, if_pos k1, if_neg hf]
          exact next _ _ hu (by rw [← hu]; exact h)
      · by_cases hn : n = 256
        · exact here (lb, 4, (i : Int) + 1) rfl (by rw [p1, if_neg k0, if_neg k1, if_pos hn]) (by rw [p1, if_neg k0, if_neg k1, if_pos hn])
        · have hu : ∀ u, p1 (r :: u) i n lb = p1 u (i + 1) (n + 1) lb := fun u => by rw [p1, if_neg k0, if_neg k1, if_neg hn]
          exact next _ _ hu (by rw [← hu]; exact h)
theorem p2_code (lb : LB) : ∀ (rs : List RL) (i : Nat) (ws : List Int), (p2 lb rs i ws).2.1 = 0 ∨ (p2 lb rs i ws).2.1 = 5
  | [], _, _ => .inl rfl
  | r :: t, i, ws => by
    unfold p2
    split
    · exact p2_code lb t _ _
    · split
      · exact p2_code lb t _ _
      · split
        · split
          · exact .inr rfl
          · exact p2_code lb t _ _
        · exact p2_code lb t _ _
theorem fin2_code (rs : List RL) (q : LB × Int × Int) (h : q.2.1 = 0) : (fin2 rs q).2.2.1 = 0 ∨ (fin2 rs q).2.2.1 = 5 := by
  unfold fin2
  rw [if_pos h]; exact p2_code _ _ _ _

end Go.Proofs.YtaophlekfepkgaaGreatDoor.PFnFaultLine

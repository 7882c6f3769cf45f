/- Printed by a program out of the translation, with contracts of my own set in. -/
import Derived.Test.YtaophlekfepkgaaGreatDoorPFnAssemblex0
import Derived.Test.YtaophlekfepkgaaGreatDoorPFnAssemblex1
import Derived.Test.YtaophlekfepkgaaGreatDoorPFnAssemblex2
namespace Go.Proofs.YtaophlekfepkgaaGreatDoor.PFnAssemble
open Go.RowKit Go.Proofs.YtaophlekfepkgaaGreatDoorW.PrintWords Go.Proofs.YtaophlekfepkgaaGreatDoorW.PrintLast Go.Proofs.YtaophlekfepkgaaGreatDoorW.PrintMore
attribute [local go_sem] max2_int min2_int max_two min_two max_three min_three max_four min_four   -- for this text's walks alone
set_option linter.unusedVariables false
set_option linter.unusedSimpArgs false

/-! ### impl_encode: function 43 -/
def impl_encode.f (a0_0 : Int) (a0_1 : Int) (a0_2 : Int) (a0_3 : Int) (a0_4 : Int) : Option (Int) := some (Go.bits .or .u32 (Go.bits .or .u32 (Go.bits .or .u32 (Go.bits .or .u32 ((((a0_0) % 4294967296) * 67108864) % 4294967296) ((((a0_1) % 4294967296) * 4194304) % 4294967296)) ((((a0_2) % 4294967296) * 262144) % 4294967296)) ((((a0_3) % 4294967296) * 16384) % 4294967296)) (Go.bits .and .u32 ((a0_4) % 4294967296) 16383))
set_option maxHeartbeats 8000000 in
set_option maxRecDepth 100000 in
theorem impl_encode.calls (a0_0 : Int) (a0_1 : Int) (a0_2 : Int) (a0_3 : Int) (a0_4 : Int) (r : Int) (w : World) (h : impl_encode.f a0_0 a0_1 a0_2 a0_3 a0_4 = some r) :
 Calls Tryz.prog 43 #[.agg #[.int .i64 a0_0, .int .i64 a0_1, .int .i64 a0_2, .int .i64 a0_3, .int .i64 a0_4]] w fun e w' => e = .returned (.int .u32 r) ∧ Below w.heap.size w w' := by
 have hu48 := Tryz.underlying48
 have HB := Aside0.mk (Below.refl w.heap.size w)
 have H : (some (Go.bits .or .u32 (Go.bits .or .u32 (Go.bits .or .u32 (Go.bits .or .u32 ((((a0_0) % 4294967296) * 67108864) % 4294967296) ((((a0_1) % 4294967296) * 4194304) % 4294967296)) ((((a0_2) % 4294967296) * 262144) % 4294967296)) ((((a0_3) % 4294967296) * 16384) % 4294967296)) (Go.bits .and .u32 ((a0_4) % 4294967296) 16383))) = some r := h
 clear h
 obtain rfl := Option.some.inj H
 go_enter Tryz.func43, Tryz.ntmps43
 go_wp2_with (first | ((with_reducible refine gate_dst (N := 1) rfl ?_); refine box_event ?hg (N := 1) ?hd (cs := #[.int .i64 a0_0, .int .i64 a0_1, .int .i64 a0_2, .int .i64 a0_3, .int .i64 a0_4]) (t := 48) ?hr ?_; (case hd => rfl); (case hg => rfl); (case hr => first | (go_simp; done) | (go_simp; rfl)); intro gb113 hg w2 hbox hb; have n0_ := Aside0.mk (below_step (by repeat (first | (with_reducible first | exact HB.out | apply below_alloc | apply pw_below_drewN | apply below_drew1) | exact HB.out)) hb); have n1_ := Aside0.mk (hbox); have n2_ := Aside0.mk ((by rw [hg]; exact (below_size (by repeat (first | (with_reducible first | exact HB.out | apply below_alloc | apply pw_below_drewN | apply below_drew1) | exact HB.out))) : w.heap.size ≤ gb113)); have n3_ := Aside0.mk ((by rw [hg]; exact (below_size (by repeat (first | (with_reducible first | exact HB.out | apply below_alloc | apply pw_below_drewN | apply below_drew1) | exact HB.out))) : w.heap.size ≤ gb113)); clear HB; have HB := n0_; have BK113 := n1_; have GW113 := n2_; have GE113 := n3_; clear n0_ n1_ n2_ n3_; clear hb hbox hg; have hcz3_0 : w2.cell? ⟨gb113, 0, none⟩ = some (.int .i64 a0_0) := (blk_cell BK113.out 0).trans rfl; have hcz3_1 : w2.cell? ⟨gb113, 1, none⟩ = some (.int .i64 a0_1) := (blk_cell BK113.out 1).trans rfl; have hcz3_2 : w2.cell? ⟨gb113, 2, none⟩ = some (.int .i64 a0_2) := (blk_cell BK113.out 2).trans rfl; have hcz3_3 : w2.cell? ⟨gb113, 3, none⟩ = some (.int .i64 a0_3) := (blk_cell BK113.out 3).trans rfl; have hcz3_4 : w2.cell? ⟨gb113, 4, none⟩ = some (.int .i64 a0_4) := (blk_cell BK113.out 4).trans rfl; have hfz3_0 := blk_frozen BK113.out 0; have hfz3_1 := blk_frozen BK113.out 1; have hfz3_2 := blk_frozen BK113.out 2; have hfz3_3 := blk_frozen BK113.out 3; have hfz3_4 := blk_frozen BK113.out 4))
 go_ret
 exact ⟨by first | rfl | (simp [errW_none, errW_some] <;> rfl) | (simp [*, errW_none, errW_some] <;> rfl), by repeat (first | (with_reducible first | exact HB.out | apply below_alloc | apply pw_below_drewN | apply below_drew1 | refine below_set ?_ GE113.out) | exact HB.out)⟩

/-! ### impl_assemble: function 20 -/
/-- A branch to a label: its line, its place, its instruction, the label. -/
structure impl_assemble.Br where
 line : Int
 at_ : Int
 op : Int
 a : Int
 b : Int
 c : Int
 imm : Int
 lab : ByteArray
/-- Where a label stands. -/
def impl_assemble.find : List (ByteArray × Int) → ByteArray → Option Int
 | [], _ => none
 | p :: t, s => if p.1 = s then some p.2 else impl_assemble.find t s
def impl_assemble.rd (x : ByteArray) : Option (Int × Int × Int × Int × Int × Int × Int × ByteArray) := if x.size ≤ 80 then impl_readLine.f x else some impl_readLine.nil_
/-- The branches, one by one. -/
def impl_assemble.l1 (lb : List (ByteArray × Int)) : List impl_assemble.Br → List Int → Option (List Int × Int × Int)
 | [], ws => some (ws, 0, 0)
 | b :: t, ws => match impl_assemble.find lb b.lab with
  | none => some ([], 5, b.line)
  | some at_ => (impl_isImm.f (at_ - b.at_ - 1)).bind fun m => if m = true then (impl_encode.f b.op b.a b.b b.c (at_ - b.at_ - 1)).bind fun w => impl_assemble.l1 lb t (ws.set b.at_.toNat w) else some ([], 6, b.line)
/-- The lines, one by one: n lines lie behind. -/
def impl_assemble.l0 : List ByteArray → Nat → List Int → List (ByteArray × Int) → List impl_assemble.Br → Option (List Int × Int × Int)
 | [], _, ws, lb, br => impl_assemble.l1 lb br ws
 | x :: t, n, ws, lb, br => (impl_assemble.rd x).bind fun ⟨k, op, a, b, c, imm, word, lab⟩ =>
  if k = 0 then some ([], 2, n + 1)
  else if k = 1 then (match impl_assemble.find lb lab with
   | some _ => some ([], 3, n + 1)
   | none => impl_assemble.l0 t (n + 1) ws (lb ++ [(lab, (ws.length : Int))]) br)
  else if ws.length = 256 then some ([], 4, n + 1)
  else if k = 4 then impl_assemble.l0 t (n + 1) (ws ++ [word]) lb (br ++ [⟨n + 1, ws.length, op, a, b, c, imm, lab⟩])
  else if k = 3 then (impl_encode.f op a b c imm).bind fun w => impl_assemble.l0 t (n + 1) (ws ++ [w]) lb br
  else impl_assemble.l0 t (n + 1) (ws ++ [word]) lb br
def impl_assemble.pieces (a0 : ByteArray) : List ByteArray := Lib.splitB (⟨#[10]⟩ : ByteArray) 0 (Lib.countB a0 (⟨#[10]⟩ : ByteArray)) a0
def impl_assemble.lines (a0 : ByteArray) : List ByteArray := (impl_assemble.pieces a0).dropLast
def impl_assemble.ends (a0 : ByteArray) : Bool := Lib.hasSuffix a0.data.toList (⟨#[10]⟩ : ByteArray).data.toList
def impl_assemble.fit (a0 : ByteArray) : Bool := decide (a0.size ≤ 20000) && (a0.toList.isEmpty || impl_assemble.ends a0)
theorem impl_assemble.pieces_length (a0 : ByteArray) : (impl_assemble.pieces a0).length = Lib.countB a0 (⟨#[10]⟩ : ByteArray) + 1 := Lib.splitB_all (⟨#[10]⟩ : ByteArray) (by decide) 0 _ a0 rfl
theorem impl_assemble.split (a0 : ByteArray) (hs : a0.size ≤ 20000) (W : World) (ht : Tab.TabsODEM W) :
 Calls Tryz.prog 55 #[.string a0, .string (⟨#[10]⟩ : ByteArray)] W fun e w' => ∃ g, e = .returned (.slice (some ⟨g, 0, none⟩) (impl_assemble.pieces a0).length (impl_assemble.pieces a0).length) ∧ w'.heap[g]? = some (.cells ((impl_assemble.pieces a0).map Value.string).toArray 9 (0, 0)) ∧ W.heap.size ≤ g ∧ Below W.heap.size W w' := by
 obtain ⟨m, hm⟩ := ht.m
 refine (Tryz.strings_Split a0 (⟨#[10]⟩ : ByteArray) m W (by omega) hm (by decide)).mono ?_
 rintro e w' ⟨rfl, rfl⟩
 have hl : Lib.countB a0 (⟨#[10]⟩ : ByteArray) + 1 = (impl_assemble.pieces a0).length := (impl_assemble.pieces_length a0).symm
 exact ⟨W.heap.size, by rw [hl], blk_new W _, Nat.le_refl _, below_alloc (Below.refl _ _) _⟩
set_option maxHeartbeats 4000000 in
set_option maxRecDepth 100000 in
theorem impl_assemble.linesBad (a0 : ByteArray) (w : World) (hs : a0.size ≤ 9223372036854775807) (h : impl_assemble.fit a0 = false) :
 Calls Tryz.prog 31 #[.string a0] w fun e w' => e = .returned (.tuple #[.slice none 0 0, .bool false]) ∧ Below w.heap.size w w' := by
 unfold impl_assemble.fit at h
 have HS := Lib.hid (fun W => Tryz.strings_HasSuffix a0 (⟨#[10]⟩ : ByteArray) W hs)
 by_cases h1 : a0.size ≤ 20000
 · have d1 : decide ((20000 : Int) < a0.size) = false := decide_eq_false (by omega)
   rw [decide_eq_true h1, Bool.true_and, Bool.or_eq_false_iff] at h
   obtain ⟨h2, h3⟩ := h
   have h2n : ¬ a0.toList = [] := by simpa using h2
   unfold impl_assemble.ends at h3
   rw [h3] at HS
   clear h1 h3
   go_enter Tryz.func31, Tryz.ntmps31
   go_wp2_with (first | ((with_reducible refine (HS.out _).mono ?_); rintro e w' ⟨rfl, rfl⟩))
   all_goals (go_ret2; exact ⟨rfl, by (with_reducible repeat (first | exact Below.refl _ _ | apply pw_below_drewN | apply below_drew1))⟩)
 · have d1 : decide ((20000 : Int) < a0.size) = true := decide_eq_true (by omega)
   clear h h1
   go_enter Tryz.func31, Tryz.ntmps31
   go_wp2_with (first | ((with_reducible refine (HS.out _).mono ?_); rintro e w' ⟨rfl, rfl⟩))
   all_goals (go_ret2; exact ⟨rfl, by (with_reducible repeat (first | exact Below.refl _ _ | apply pw_below_drewN | apply below_drew1))⟩)
theorem impl_assemble.length_lines (a0 : ByteArray) : (impl_assemble.pieces a0).length = (impl_assemble.lines a0).length + 1 := by
 have := impl_assemble.pieces_length a0
 unfold impl_assemble.lines
 rw [List.length_dropLast]; omega
set_option maxHeartbeats 4000000 in
set_option maxRecDepth 100000 in
theorem impl_assemble.linesGood (a0 : ByteArray) (w : World) (ht : Tab.TabsODEM w) (h : impl_assemble.fit a0 = true) :
 Calls Tryz.prog 31 #[.string a0] w fun e w' => ∃ g, e = .returned (.tuple #[.slice (some ⟨g, 0, none⟩) (impl_assemble.lines a0).length ((impl_assemble.lines a0).length + 1), .bool (decide ((impl_assemble.lines a0).length ≤ 600))]) ∧ w'.heap[g]? = some (.cells ((impl_assemble.pieces a0).map Value.string).toArray 9 (0, 0)) ∧ w.heap.size ≤ g ∧ Below w.heap.size w w' := by
 unfold impl_assemble.fit at h
 rw [Bool.and_eq_true, decide_eq_true_eq] at h
 obtain ⟨h1, h2⟩ := h
 have HS := Lib.hid (fun W => Tryz.strings_HasSuffix a0 (⟨#[10]⟩ : ByteArray) W (by omega))
 have d1 : decide ((20000 : Int) < a0.size) = false := decide_eq_false (by omega)
 have hl := impl_assemble.length_lines a0
 have hc : (impl_assemble.lines a0).length ≤ 20000 := by
  have h5 := impl_assemble.pieces_length a0
  have h6 := Lib.countB_le (⟨#[10]⟩ : ByteArray) (by decide) a0.size a0 (Nat.le_refl _)
  omega
 have HP := Lib.hid (fun W (ht : Tab.TabsODEM W) => impl_assemble.split a0 h1 W ht)
 have HT := Aside0.mk ht
 generalize impl_assemble.pieces a0 = ps at *
 generalize impl_assemble.lines a0 = ls at *
 rw [hl] at HP
 have hw : wrap64 (ls.length : Int) = (ls.length : Int) := by unfold wrap64; omega
 have hm : max (ls.length : Int) 0 = (ls.length : Int) := by omega
 have hq : decide ((ls.length : Int) ≤ 600) = decide (ls.length ≤ 600) := by rw [decide_eq_decide]; omega
 have hx : (0 ≤ (ls.length : Int) ∧ (ls.length : Int) ≤ (ls.length : Int) + 1) = True := by simp; omega
 have htn : (ls.length : Int).toNat = ls.length := by simp
 clear h1 ht hl hc
 cases h3 : a0.toList.isEmpty with
 | true =>
  clear h2
  have h4 : a0.toList = [] := by simpa using h3
  go_enter Tryz.func31, Tryz.ntmps31
  go_wp2_with (first | ((with_reducible refine (HS.out _).mono ?_); rintro e w' ⟨rfl, rfl⟩) | ((with_reducible refine (HP.out _ ?hT).mono ?_); (case hT => exact HT.out); rintro e w2 ⟨g, rfl, hg, hge, hb⟩))
  all_goals (go_ret2; exact ⟨g, rfl, hg, hge, hb⟩)
 | false =>
  have h4 : ¬ a0.toList = [] := by simpa using h3
  rw [h3, Bool.false_or] at h2
  unfold impl_assemble.ends at h2
  rw [h2] at HS
  clear h2
  go_enter Tryz.func31, Tryz.ntmps31
  go_wp2_with (first | ((with_reducible refine (HS.out _).mono ?_); rintro e w' ⟨rfl, hw'⟩; subst hw') | ((with_reducible refine (HP.out _ ?hT).mono ?_); (case hT => exact HT.out); rintro e w2 ⟨g, rfl, hg, hge, hb⟩))
  all_goals (go_ret2; exact ⟨g, rfl, hg, hge, hb⟩)
def impl_assemble.f (a0 : ByteArray) : Option (List Int × Int × Int) := if a0.size ≤ 9223372036854775807 then (if impl_assemble.fit a0 = true ∧ (impl_assemble.lines a0).length ≤ 600 then impl_assemble.l0 (impl_assemble.lines a0) 0 [] [] [] else some ([], 1, 0)) else none
def impl_assemble.cells (b : impl_assemble.Br) : List Value := [.int .i64 b.line, .int .i64 b.at_, .int .i64 b.op, .int .i64 b.a, .int .i64 b.b, .int .i64 b.c, .int .i64 b.imm, .string b.lab]
def impl_assemble.kb : Kd impl_assemble.Br where
 sz := 8
 E := []
 K := fun _ x cs => cs = impl_assemble.cells x
 M := fun _ _ _ x cs => cs = impl_assemble.cells x
 K_len := fun h => by rw [h]; rfl
 K_one := fun h u hu => by
  rw [h] at hu
  simp only [impl_assemble.cells, List.mem_cons, List.not_mem_nil, or_false] at hu
  rcases hu with rfl | rfl | rfl | rfl | rfl | rfl | rfl | rfl <;> rfl
 K_below := fun _ h => h
 K_of_M := fun h => h
 M_mono := fun _ h => h
 M_bound := fun h => h
 M_move := fun _ h => h
 M_lower := fun _ h => h
theorem impl_assemble.law : Go.Maps.Keyed Tryz.prog 9 := Go.Maps.string_keyed Tryz.underlying9
theorem impl_assemble.zeroE (w : World) : (zeroValue 3).run Tryz.prog w = .ok (.int .i64 0) w := by kernel_rfl
theorem impl_assemble.key (s : ByteArray) (h : s.size ≤ 80) : keyOf Tryz.prog 9 (.string s) = some (.string s.data.toList) := Go.WideMaps.keyOf_string_mk Tryz.underlying9 (by unfold maxLen; omega)
theorem impl_assemble.elemE (x : Int) (h : 0 ≤ x ∧ x ≤ 256) : plainElem (H := Unit) Tryz.prog 3 (.int .i64 x) = some (.lit (.int .i64 x), []) := plainElem_int Tryz.underlying3 (WalkArith.wf_i64 (by omega))
theorem impl_assemble.find_append (lb : List (ByteArray × Int)) (s : ByteArray) (x : Int) (t : ByteArray) : impl_assemble.find (lb ++ [(s, x)]) t = match impl_assemble.find lb t with | some y => some y | none => if s = t then some x else none := by
 induction lb with
 | nil => rfl
 | cons p r ih =>
  show (if p.1 = t then some p.2 else impl_assemble.find (r ++ [(s, x)]) t) = match (if p.1 = t then some p.2 else impl_assemble.find r t) with | some y => some y | none => if s = t then some x else none
  by_cases e : p.1 = t
  · rw [if_pos e, if_pos e]
  · rw [if_neg e, if_neg e, ih]
/-- The map holds the labels. -/
def impl_assemble.Lab (D : DataW Unit) (lb : List (ByteArray × Int)) : Prop := Go.Maps.IsMap D ∧ ∀ s : ByteArray, Go.Maps.has D (.string s.data.toList) = (impl_assemble.find lb s).isSome ∧ D.atKey (.string s.data.toList) (.lit (.int .i64 0)) = .lit (.int .i64 ((impl_assemble.find lb s).getD 0))
theorem impl_assemble.Lab.nil : impl_assemble.Lab (.map []) [] := ⟨⟨[], rfl⟩, fun s => ⟨rfl, rfl⟩⟩
theorem impl_assemble.Lab.put {D : DataW Unit} {lb : List (ByteArray × Int)} (h : impl_assemble.Lab D lb) (s : ByteArray) (x : Int) (hf : impl_assemble.find lb s = none) : impl_assemble.Lab (D.put (.string s.data.toList) (.lit (.int .i64 x))) (lb ++ [(s, x)]) := by
 refine ⟨h.1.put _ _, fun t => ?_⟩
 rw [impl_assemble.find_append]
 by_cases e : s = t
 · subst e
   rw [hf, if_pos rfl]
   exact ⟨Go.Maps.has_put_same h.1 (by simp [Go.WideAt.IsKeyLit]) _, Go.Maps.atKey_put_same h.1 (by simp [Go.WideAt.IsKeyLit]) _ _⟩
 · have hne : (Lit.string t.data.toList) ≠ (Lit.string s.data.toList) := by
    intro h1
    injection h1 with h1
    apply e
    obtain ⟨⟨s⟩⟩ := s
    obtain ⟨⟨t⟩⟩ := t
    simp at h1
    rw [h1]
   rw [Go.Maps.has_put_other hne, Go.Maps.atKey_put_other hne, if_neg e, (h.2 t).1, (h.2 t).2]
   cases impl_assemble.find lb t <;> exact ⟨rfl, rfl⟩
/-- What stays through the lines: the lines' block, the words, the branches, the labels' map. -/
structure impl_assemble.St (w : World) (g gm : Nat) (ps : List ByteArray) (ws : List Int) (lb : List (ByteArray × Int)) (br : List impl_assemble.Br) (v7 v8 : Value) (W : World) : Prop where
 lines : W.heap[g]? = some (.cells (ps.map Value.string).toArray 9 (0, 0))
 words : Kd.R (Kd.int .u32) 44 W w.heap.size (fun _ => True) v7 ws
 brs : Kd.R impl_assemble.kb 80 W w.heap.size (fun _ => True) v8 br
 map : ∃ D, W.ownsMap Tryz.prog 9 (plainElem (H := Unit) Tryz.prog 3) gm lb.length D ∧ impl_assemble.Lab D lb
 below : Below w.heap.size w W
section
variable {w W W' : World} {g gm : Nat} {ps : List ByteArray} {ws : List Int} {lb : List (ByteArray × Int)} {br : List impl_assemble.Br} {v7 v8 : Value}
theorem impl_assemble.grown_of_below {W W' : World} (hb : Below W.heap.size W W') : W.grownBy W' none := ⟨hb.os, hb.tape, hb.output, hb.size, fun i hi _ => hb.block i hi⟩
theorem impl_assemble.St.mono (h : impl_assemble.St w g gm ps ws lb br v7 v8 W) (hb : Below W.heap.size W W') : impl_assemble.St w g gm ps ws lb br v7 v8 W' where
 lines := blk_below h.lines hb
 words := Kd.R_below h.words hb
 brs := Kd.R_below h.brs hb
 map := by
  obtain ⟨D, h1, h2⟩ := h.map
  exact ⟨D, h1.kept (impl_assemble.grown_of_below hb) (by simp), h2⟩
 below := below_step h.below hb
theorem impl_assemble.ne_map {α : Type} {d : Kd α} {e base b n : Nat} {ok : Nat → Prop} {v : Value} {xs : List α} {P : Program} {k : TypeId} {R : Value → Option (DataW Unit × List MemPlace)} {D : DataW Unit} (h : d.R e W base ok v xs) (hm : W.ownsMap P k R b n D) : some b ≠ v.ownBlock := by
 intro he
 obtain ⟨inner, ho⟩ := Kd.R_own h
 obtain ⟨cells, hc⟩ := own_typed ho b he.symm
 obtain ⟨es, clock, hb, _⟩ := hm
 rw [hc] at hb
 exact absurd hb (by simp)
/-- A map's store. -/
theorem impl_assemble.R_map {α : Type} {d : Kd α} {e base b n : Nat} {v : Value} {xs : List α} {P : Program} {k : TypeId} {R : Value → Option (DataW Unit × List MemPlace)} {D : DataW Unit} (h : d.R e W base (fun _ => True) v xs) (hm : W.ownsMap P k R b n D) (hg : W.grownBy W' (some b)) : d.R e W' base (fun _ => True) v xs := by
 obtain ⟨es, clock, hb, _⟩ := hm
 refine Kd.R_mono (Kd.R_move (Kd.R_bound h) (fun k hk => ?_)) (fun _ _ => trivial)
 obtain ⟨_, _, hlt, q, _, cells, hc⟩ := hk
 refine hg.block k hlt ?_
 rintro he
 injection he with he
 subst he
 rw [hc] at hb
 exact absurd hb (by simp)
theorem impl_assemble.St.put (h : impl_assemble.St w g gm ps ws lb br v7 v8 W) {D D' : DataW Unit} {s : ByteArray} {x : Int} (hm : W.ownsMap Tryz.prog 9 (plainElem (H := Unit) Tryz.prog 3) gm lb.length D) (hm' : W'.ownsMap Tryz.prog 9 (plainElem (H := Unit) Tryz.prog 3) gm (lb.length + 1) D') (hl : impl_assemble.Lab D' (lb ++ [(s, x)])) (hg : W.grownBy W' (some gm)) (hgm : w.heap.size ≤ gm) : impl_assemble.St w g gm ps ws (lb ++ [(s, x)]) br v7 v8 W' where
 lines := blk_grown h.lines hg (by
  rintro he
  injection he with he
  subst he
  obtain ⟨es, clock, hb, _⟩ := hm
  rw [h.lines] at hb
  exact absurd hb (by simp))
 words := impl_assemble.R_map h.words hm hg
 brs := impl_assemble.R_map h.brs hm hg
 map := ⟨D', by rw [List.length_append]; exact hm', hl⟩
 below := h.below.grown hg h.below.size (fun j hj => by cases hj; exact hgm)
/-- A row of another type was written. -/
theorem impl_assemble.R_row {α β : Type} {d : Kd α} {d' : Kd β} {e e' base : Nat} {v u : Value} {xs : List α} {ys : List β} (h : d.R e W base (fun _ => True) v xs) (hE : d.E = []) (h' : d'.R e' W base (fun _ => True) u ys) (hne : e ≠ e') (hg : W.grownBy W' u.ownBlock) : d.R e W' base (fun _ => True) v xs := by
 refine Kd.R_mono (Kd.R_grown (Kd.R_apartR h h' (fun q hq => ?_)) hg (fun k hk => hk.2)) (fun _ _ => trivial)
 rw [hE] at hq
 rw [List.mem_singleton.1 hq]
 exact hne
theorem impl_assemble.St.branch (h : impl_assemble.St w g gm ps ws lb br v7 v8 W) {v1 : Value} {b : impl_assemble.Br} (ho : Kd.R impl_assemble.kb 80 W' w.heap.size (fun _ => True) v1 (br ++ [b])) (hb : Below w.heap.size w W') (hg : W.grownBy W' v8.ownBlock) : impl_assemble.St w g gm ps ws lb (br ++ [b]) v7 v1 W' where
 lines := blk_grown h.lines hg (Kd.R_ne h.brs h.lines (by decide))
 words := impl_assemble.R_row h.words rfl h.brs (by decide) hg
 brs := ho
 map := by
  obtain ⟨D, h1, h2⟩ := h.map
  exact ⟨D, h1.kept hg (impl_assemble.ne_map h.brs h1), h2⟩
 below := hb
theorem impl_assemble.St.word (h : impl_assemble.St w g gm ps ws lb br v7 v8 W) {v1 : Value} {ws' : List Int} (ho : Kd.R (Kd.int .u32) 44 W' w.heap.size (fun _ => True) v1 ws') (hb : Below w.heap.size w W') (hg : W.grownBy W' v7.ownBlock) : impl_assemble.St w g gm ps ws' lb br v1 v8 W' where
 lines := blk_grown h.lines hg (Kd.R_ne h.words h.lines (by decide))
 words := ho
 brs := impl_assemble.R_row h.brs rfl h.words (by decide) hg
 map := by
  obtain ⟨D, h1, h2⟩ := h.map
  exact ⟨D, h1.kept hg (impl_assemble.ne_map h.words h1), h2⟩
 below := hb
end
section
variable {w W W' : World} {g gm : Nat} {ps : List ByteArray} {ws : List Int} {lb : List (ByteArray × Int)} {br : List impl_assemble.Br} {v7 v8 : Value} {gw c7 : Nat}
/-- A store into a box that is not the branches' row. -/
theorem impl_assemble.St.setN (h : impl_assemble.St w g gm ps ws lb br v7 v8 W) {gb tb : Nat} {cs : Array Value} (hb : W.heap[gb]? = some (.cells cs tb (0, 0))) (hge : w.heap.size ≤ gb) (h1 : 9 ≠ tb) (h2 : 44 ≠ tb) (h3 : some gb ≠ v8.ownBlock) (j : Nat) (u : Value) : impl_assemble.St w g gm ps ws lb br v7 v8 (W.setCell ⟨gb, j, none⟩ u) where
 lines := blk_far h.lines (blk_ne h.lines hb h1) u
 words := Kd.R_set h.words hb (by intro q hq; rw [List.mem_singleton.1 hq]; exact h2) j u
 brs := Kd.R_mono (Kd.R_far (p := ⟨gb, j, none⟩) (Kd.R_mono (ok' := fun k => True ∧ k ≠ gb) (Kd.R_tight rfl h.brs) (fun k hk => ⟨trivial, fun e_ => h3 (by rw [← e_]; exact hk)⟩)) (fun _ hk => hk.2) u) (fun _ hk => hk.1)
 map := by
  obtain ⟨D, m1, m2⟩ := h.map
  refine ⟨D, m1.setCell ?_ u, m2⟩
  rintro he
  obtain ⟨es, clock, hm, _⟩ := m1
  rw [he, hb] at hm
  exact absurd hm (by simp)
 below := below_set h.below hge
/-- A whole box written. -/
theorem impl_assemble.St.boxN (h : impl_assemble.St w g gm ps ws lb br v7 v8 W) {gb tb : Nat} {c0 c1 c2 c3 c4 c5 c6 c7 : Value} (hb : W.heap[gb]? = some (.cells #[c0, c1, c2, c3, c4, c5, c6, c7] tb (0, 0))) (hge : w.heap.size ≤ gb) (h1 : 9 ≠ tb) (h2 : 44 ≠ tb) (h3 : some gb ≠ v8.ownBlock) (u0 u1 u2 u3 u4 u5 u6 u7 : Value) :
 impl_assemble.St w g gm ps ws lb br v7 v8 ((((((((W.setCell ⟨gb, 0, none⟩ u0).setCell ⟨gb, 1, none⟩ u1).setCell ⟨gb, 2, none⟩ u2).setCell ⟨gb, 3, none⟩ u3).setCell ⟨gb, 4, none⟩ u4).setCell ⟨gb, 5, none⟩ u5).setCell ⟨gb, 6, none⟩ u6).setCell ⟨gb, 7, none⟩ u7) ∧
 ((((((((W.setCell ⟨gb, 0, none⟩ u0).setCell ⟨gb, 1, none⟩ u1).setCell ⟨gb, 2, none⟩ u2).setCell ⟨gb, 3, none⟩ u3).setCell ⟨gb, 4, none⟩ u4).setCell ⟨gb, 5, none⟩ u5).setCell ⟨gb, 6, none⟩ u6).setCell ⟨gb, 7, none⟩ u7).heap[gb]? = some (.cells #[u0, u1, u2, u3, u4, u5, u6, u7] tb (0, 0)) := by
 have b0 := blk_put hb 0 u0 (cs' := #[u0, c1, c2, c3, c4, c5, c6, c7]) rfl
 have b1 := blk_put b0 1 u1 (cs' := #[u0, u1, c2, c3, c4, c5, c6, c7]) rfl
 have b2 := blk_put b1 2 u2 (cs' := #[u0, u1, u2, c3, c4, c5, c6, c7]) rfl
 have b3 := blk_put b2 3 u3 (cs' := #[u0, u1, u2, u3, c4, c5, c6, c7]) rfl
 have b4 := blk_put b3 4 u4 (cs' := #[u0, u1, u2, u3, u4, c5, c6, c7]) rfl
 have b5 := blk_put b4 5 u5 (cs' := #[u0, u1, u2, u3, u4, u5, c6, c7]) rfl
 have b6 := blk_put b5 6 u6 (cs' := #[u0, u1, u2, u3, u4, u5, u6, c7]) rfl
 have b7 := blk_put b6 7 u7 (cs' := #[u0, u1, u2, u3, u4, u5, u6, u7]) rfl
 exact ⟨(((((((h.setN hb hge h1 h2 h3 0 u0).setN b0 hge h1 h2 h3 1 u1).setN b1 hge h1 h2 h3 2 u2).setN b2 hge h1 h2 h3 3 u3).setN b3 hge h1 h2 h3 4 u4).setN b4 hge h1 h2 h3 5 u5).setN b5 hge h1 h2 h3 6 u6).setN b6 hge h1 h2 h3 7 u7, b7⟩
theorem impl_assemble.St.box (h : impl_assemble.St w g gm ps ws lb br v7 v8 W) {gb tb : Nat} {c0 c1 c2 c3 c4 c5 c6 c7 : Value} (hb : W.heap[gb]? = some (.cells #[c0, c1, c2, c3, c4, c5, c6, c7] tb (0, 0))) (hge : w.heap.size ≤ gb) (h1 : 9 ≠ tb) (h2 : 44 ≠ tb) (h3 : 80 ≠ tb) (u0 u1 u2 u3 u4 u5 u6 u7 : Value) :
 impl_assemble.St w g gm ps ws lb br v7 v8 ((((((((W.setCell ⟨gb, 0, none⟩ u0).setCell ⟨gb, 1, none⟩ u1).setCell ⟨gb, 2, none⟩ u2).setCell ⟨gb, 3, none⟩ u3).setCell ⟨gb, 4, none⟩ u4).setCell ⟨gb, 5, none⟩ u5).setCell ⟨gb, 6, none⟩ u6).setCell ⟨gb, 7, none⟩ u7) ∧
 ((((((((W.setCell ⟨gb, 0, none⟩ u0).setCell ⟨gb, 1, none⟩ u1).setCell ⟨gb, 2, none⟩ u2).setCell ⟨gb, 3, none⟩ u3).setCell ⟨gb, 4, none⟩ u4).setCell ⟨gb, 5, none⟩ u5).setCell ⟨gb, 6, none⟩ u6).setCell ⟨gb, 7, none⟩ u7).heap[gb]? = some (.cells #[u0, u1, u2, u3, u4, u5, u6, u7] tb (0, 0)) :=
 h.boxN hb hge h1 h2 (Kd.R_ne h.brs hb h3) u0 u1 u2 u3 u4 u5 u6 u7
theorem impl_assemble.St.store (h : impl_assemble.St w g gm ps ws lb br (.slice (some ⟨gw, 0, none⟩) ws.length c7) v8 W) (i : Nat) (x : Int) : impl_assemble.St w g gm ps (ws.set i x) lb br (.slice (some ⟨gw, 0, none⟩) ws.length c7) v8 (W.setCell ⟨gw, i, none⟩ (.int .u32 x)) := by
 obtain ⟨p1, p2⟩ := Kd.R_put h.words (i : Int) x
 rw [Int.toNat_natCast] at p1 p2
 refine impl_assemble.St.word (ws := ws) h p1 (h.below.grown p2 h.below.size (fun j hj => ?_)) p2
 cases hj
 obtain ⟨inner, ho⟩ := Kd.R_own h.words
 exact own_base ho gw rfl
theorem impl_assemble.addr {α : Type} {d : Kd α} {e base n c : Nat} {A : Option Addr} {ok : Nat → Prop} {xs : List α} (h : d.R e W base ok (.slice A n c) xs) (hn : 0 < n) : ∃ b, A = some ⟨b, 0, none⟩ := by
 obtain ⟨inner, ho⟩ := Kd.R_own h
 rcases ho.2 with ⟨h0, _⟩ | ⟨g, cap, cur, he, _⟩
 · injection h0 with _ h1 _; omega
 · injection he with he _ _; exact ⟨g, he⟩
theorem impl_assemble.St.drewN (h : impl_assemble.St w g gm ps ws lb br v7 v8 W) (n : Nat) : impl_assemble.St w g gm ps ws lb br v7 v8 (W.drewN n) where
 lines := blk_drewN h.lines n
 words := Kd.R_drewN h.words n
 brs := Kd.R_drewN h.brs n
 map := h.map
 below := pw_below_drewN h.below n
theorem impl_assemble.St.drew (h : impl_assemble.St w g gm ps ws lb br v7 v8 W) : impl_assemble.St w g gm ps ws lb br v7 v8 W.drew where
 lines := blk_drew h.lines
 words := Kd.R_drew h.words
 brs := Kd.R_drew h.brs
 map := h.map
 below := below_drew1 h.below
theorem impl_assemble.St.alloc (h : impl_assemble.St w g gm ps ws lb br v7 v8 W) (o : Obj) : impl_assemble.St w g gm ps ws lb br v7 v8 (W.alloc o) := h.mono (below_alloc (Below.refl _ _) o)
end
/-- What a line's label is at most. -/
theorem impl_assemble.lab_nil : impl_readLine.nil_.2.2.2.2.2.2.2.size ≤ 80 := by decide
theorem impl_assemble.lab_br (k : Nat) (op a b c : Int) (w : ByteArray) (hw : w.size ≤ 80) (r : Int × Int × Int × Int × Int × Int × Int × ByteArray) (h : impl_readLine.br k op a b c w = some r) : r.2.2.2.2.2.2.2.size ≤ 80 := by
 unfold impl_readLine.br at h
 obtain ⟨q, _, h⟩ := Option.bind_eq_some_iff.1 h
 split at h
 · obtain ⟨l, _, h⟩ := Option.bind_eq_some_iff.1 h
   split at h
   · obtain rfl := Option.some.inj h; exact hw
   · obtain rfl := Option.some.inj h; exact impl_assemble.lab_nil
 · obtain rfl := Option.some.inj h; exact impl_assemble.lab_nil
theorem impl_assemble.lab_fin (k : Nat) (op F a b c : Int) (ws : List ByteArray) (hw : ∀ x ∈ ws, x.size ≤ 80) (r : Int × Int × Int × Int × Int × Int × Int × ByteArray) (h : impl_readLine.fin k op F a b c ws = some r) : r.2.2.2.2.2.2.2.size ≤ 80 := by
 unfold impl_readLine.fin at h
 split at h
 · obtain rfl := Option.some.inj h; exact impl_assemble.lab_nil
 · split at h
   · split at h
     · obtain rfl := Option.some.inj h; exact Nat.zero_le _
     · obtain rfl := Option.some.inj h; exact impl_assemble.lab_nil
   · split at h
     · rename_i w
       obtain ⟨d, _, h⟩ := Option.bind_eq_some_iff.1 h
       split at h
       · obtain ⟨m, _, h⟩ := Option.bind_eq_some_iff.1 h
         split at h
         · obtain rfl := Option.some.inj h; exact Nat.zero_le _
         · exact impl_assemble.lab_br _ _ _ _ _ _ (hw _ (by simp)) r h
       · exact impl_assemble.lab_br _ _ _ _ _ _ (hw _ (by simp)) r h
     · obtain rfl := Option.some.inj h; exact impl_assemble.lab_nil
theorem impl_assemble.lab_rd (k : Nat) (op F : Int) (r : Int × Int × Int × Int × Int × Int × Int × ByteArray) : ∀ (n : Nat) (a b c : Int) (ws : List ByteArray), (∀ x ∈ ws, x.size ≤ 80) → impl_readLine.rd k op F n a b c ws = some r → r.2.2.2.2.2.2.2.size ≤ 80
 | 0, a, b, c, ws, hw, h => impl_assemble.lab_fin k op F a b c ws hw r h
 | n + 1, a, b, c, ws, hw, h => by
  unfold impl_readLine.rd at h
  split at h
  · exact impl_assemble.lab_rd k op F r n a b c ws hw h
  · split at h
    · exact impl_assemble.lab_rd k op F r n a b c ws hw h
    · split at h
      · obtain rfl := Option.some.inj h; exact impl_assemble.lab_nil
      · obtain ⟨gg, _, h⟩ := Option.bind_eq_some_iff.1 h
        split at h
        · exact impl_assemble.lab_rd k op F r n _ _ _ _ (fun x hx => hw x (List.mem_cons_of_mem _ hx)) h
        · obtain rfl := Option.some.inj h; exact impl_assemble.lab_nil
theorem impl_assemble.lab_go (k : Nat) (w0 : ByteArray) (wt : List ByteArray) (hw : ∀ x ∈ wt, x.size ≤ 80) (r : Int × Int × Int × Int × Int × Int × Int × ByteArray) (h : impl_readLine.go k w0 wt = some r) : r.2.2.2.2.2.2.2.size ≤ 80 := by
 unfold impl_readLine.go at h
 split at h
 · unfold impl_readLine.wd at h
   split at h
   · obtain ⟨d, _, h⟩ := Option.bind_eq_some_iff.1 h
     split at h
     · split at h
       · obtain rfl := Option.some.inj h; exact impl_assemble.lab_nil
       · obtain rfl := Option.some.inj h; exact Nat.zero_le _
     · obtain rfl := Option.some.inj h; exact impl_assemble.lab_nil
   · obtain rfl := Option.some.inj h; exact impl_assemble.lab_nil
 · obtain ⟨F, _, h⟩ := Option.bind_eq_some_iff.1 h
   exact impl_assemble.lab_rd k _ F r 3 0 0 0 wt hw h
theorem impl_assemble.lab_size (x : ByteArray) (r : Int × Int × Int × Int × Int × Int × Int × ByteArray) (h : impl_assemble.rd x = some r) : r.2.2.2.2.2.2.2.size ≤ 80 := by
 unfold impl_assemble.rd at h
 split at h
 case isFalse => obtain rfl := Option.some.inj h; exact impl_assemble.lab_nil
 case isTrue hx =>
  unfold impl_readLine.f at h
  generalize (200 : Nat) = k at h
  unfold impl_readLine.f0 at h
  rw [if_pos hx] at h
  have hw := impl_readLine.words_size x hx
  obtain ⟨w0, wt, hws⟩ : ∃ w0 wt, impl_readLine.ws x = w0 :: wt := by
   cases e : impl_readLine.ws x with
   | nil => have := impl_readLine.ws_length x; rw [e] at this; simp at this
   | cons x t => exact ⟨x, t, rfl⟩
  rw [hws] at h hw
  rw [List.headD_cons, List.tail_cons] at h
  have ht : ∀ x ∈ wt, x.size ≤ 80 := fun y hy => hw y (List.mem_cons_of_mem _ hy)
  have hn := Nat.le_trans (impl_readLine.nm_size w0) (hw w0 (by simp))
  unfold impl_readLine.f1 at h
  split at h
  · split at h
    · obtain ⟨l, _, h⟩ := Option.bind_eq_some_iff.1 h
      split at h
      · obtain rfl := Option.some.inj h; exact hn
      · exact impl_assemble.lab_go k w0 wt ht r h
    · exact impl_assemble.lab_go k w0 wt ht r h
  · exact impl_assemble.lab_go k w0 wt ht r h
/-- What the lines so far have left. -/
structure impl_assemble.Inv (n : Nat) (ws : List Int) (lb : List (ByteArray × Int)) (br : List impl_assemble.Br) : Prop where
 n_ : n ≤ 600
 ws_ : ws.length ≤ 256
 lb_ : lb.length ≤ n
 br_ : br.length ≤ n
 val : ∀ p ∈ lb, 0 ≤ p.2 ∧ p.2 ≤ 256
 at_ : ∀ b ∈ br, 0 ≤ b.at_ ∧ b.at_ < ws.length ∧ b.lab.size ≤ 80
theorem impl_assemble.Inv.nil : impl_assemble.Inv 0 [] [] [] := ⟨by decide, by simp, by simp, by simp, by simp, by simp⟩
section
variable {n : Nat} {ws : List Int} {lb : List (ByteArray × Int)} {br : List impl_assemble.Br}
theorem impl_assemble.Inv.label (h : impl_assemble.Inv n ws lb br) (hn : n + 1 ≤ 600) (s : ByteArray) : impl_assemble.Inv (n + 1) ws (lb ++ [(s, (ws.length : Int))]) br := by
 refine ⟨hn, h.ws_, by have := h.lb_; simp; omega, by have := h.br_; omega, fun p hp => ?_, h.at_⟩
 rcases List.mem_append.1 hp with hp | hp
 · exact h.val p hp
 · rw [List.mem_singleton.1 hp]; have := h.ws_; simp; omega
theorem impl_assemble.Inv.word (h : impl_assemble.Inv n ws lb br) (hn : n + 1 ≤ 600) (hw : ws.length ≠ 256) (x : Int) : impl_assemble.Inv (n + 1) (ws ++ [x]) lb br := by
 have hl : (ws ++ [x]).length = ws.length + 1 := by simp
 refine ⟨hn, by have := h.ws_; omega, by have := h.lb_; omega, by have := h.br_; omega, h.val, fun b hb => ?_⟩
 have := h.at_ b hb
 exact ⟨this.1, by omega, this.2.2⟩
theorem impl_assemble.Inv.branch (h : impl_assemble.Inv n ws lb br) (hn : n + 1 ≤ 600) (hw : ws.length ≠ 256) (x : Int) (b : impl_assemble.Br) (hb : b.at_ = ws.length) (hs : b.lab.size ≤ 80) : impl_assemble.Inv (n + 1) (ws ++ [x]) lb (br ++ [b]) := by
 have hl : (ws ++ [x]).length = ws.length + 1 := by simp
 refine ⟨hn, by have := h.ws_; omega, by have := h.lb_; omega, by have := h.br_; simp; omega, h.val, fun c hc => ?_⟩
 rcases List.mem_append.1 hc with hc | hc
 · have := h.at_ c hc
   exact ⟨this.1, by omega, this.2.2⟩
 · rw [List.mem_singleton.1 hc]
   exact ⟨by omega, by omega, hs⟩
theorem impl_assemble.Inv.turn (h : impl_assemble.Inv n ws lb br) {ws' : List Int} (hl : ws'.length = ws.length) : impl_assemble.Inv n ws' lb br := ⟨h.n_, by rw [hl]; exact h.ws_, h.lb_, h.br_, h.val, by rw [hl]; exact h.at_⟩
end
theorem impl_assemble.find_mem : ∀ (lb : List (ByteArray × Int)) (s : ByteArray) (x : Int), impl_assemble.find lb s = some x → ∃ p ∈ lb, p.2 = x
 | [], _, _, h => by simp [impl_assemble.find] at h
 | p :: t, s, x, h => by
  unfold impl_assemble.find at h
  split at h
  · exact ⟨p, by simp, Option.some.inj h⟩
  · obtain ⟨q, hq, e⟩ := impl_assemble.find_mem t s x h
    exact ⟨q, List.mem_cons_of_mem _ hq, e⟩
theorem impl_assemble.infoBr : (Tryz.prog.info? 80).map (fun i => (i.zero, i.size, i.bytes)) = some (some (.agg #[.int .i64 0, .int .i64 0, .int .i64 0, .int .i64 0, .int .i64 0, .int .i64 0, .int .i64 0, .string ⟨#[]⟩]), 8, 72) := by kernel_rfl
theorem impl_assemble.infoW : (Tryz.prog.info? 44).map (fun i => (i.zero, i.size, i.bytes)) = some (some (.int .u32 0), 1, 4) := by kernel_rfl
set_option maxHeartbeats 8000000 in
set_option maxRecDepth 100000 in
theorem impl_assemble.walk (a0 : ByteArray) (r1 : List Int) (r2 r3 : Int) (w : World) (ht : Tab.TabsODEM w) (hfit : impl_assemble.fit a0 = true) (hlen : (impl_assemble.lines a0).length ≤ 600) (h : impl_assemble.l0 (impl_assemble.lines a0) 0 [] [] [] = some (r1, r2, r3)) :
 Calls Tryz.prog 20 #[.string a0] w fun e w' => ∃ v1_ : Value, e = .returned (.tuple #[v1_, .int .i64 r2, .int .i64 r3]) ∧ Kd.R (Kd.int .u32) 44 w' w.heap.size (fun _ => True) v1_ r1 ∧ Below w.heap.size w w' := by
 have HL := fun W (ht : Tab.TabsODEM W) => impl_assemble.linesGood a0 W ht hfit
 rw [decide_eq_true hlen] at HL
 obtain ⟨lst, hps⟩ : ∃ x, impl_assemble.pieces a0 = impl_assemble.lines a0 ++ [x] := by
  have h1 := impl_assemble.length_lines a0
  have hne : impl_assemble.pieces a0 ≠ [] := by intro e; rw [e] at h1; simp at h1
  exact ⟨_, (List.dropLast_concat_getLast hne).symm⟩
 rw [hps] at HL
 generalize impl_assemble.lines a0 = ls at *
 generalize impl_assemble.pieces a0 = ps at *
 have HL := Lib.hid HL
 have HT := Aside0.mk ht
 have HGO := Aside0.mk h
 have HLEN := Aside0.mk hlen
 clear ht hps hfit h hlen
 have hu88 := Tryz.underlying80
 have hmm := @run_makeMap Tryz.prog
 go_enter Tryz.func20, Tryz.ntmps20
 go_wp2_with (first | ((with_reducible refine (HL.out _ ?hT).mono ?_); (case hT => exact HT.out); rintro e w1 ⟨g, rfl, hg, hge, hb⟩; have HG := Aside0.mk hg; have GE := Aside0.mk hge; have HB := Aside0.mk hb; clear hg hge hb))
 have HS := Aside0.mk (show impl_assemble.St w g w1.heap.size (ls ++ [lst]) [] [] [] (.slice none 0 0) (.slice none 0 0) (w1.alloc (.map #[] 0)) from ⟨blk_alloc HG.out _, Kd.R_nil _ _ _ _ _, Kd.R_nil _ _ _ _ _, ⟨_, World.ownsMap_made _ _ _ _, impl_assemble.Lab.nil⟩, below_alloc HB.out _⟩)
 have GM := Aside0.mk (below_size HB.out)
 clear HG HB hmm
 go_loopg [30, 7, 8] (ls.length + 1) (fun gk v30 v7 v8 wr => ∃ (n : Nat) (ws : List Int) (lb : List (ByteArray × Int)) (br : List impl_assemble.Br), v30 = .int .i64 n ∧ n ≤ ls.length ∧ Aside0 (n + gk = ls.length + 1) ∧ Aside0 (impl_assemble.l0 (ls.drop n) n ws lb br = some (r1, r2, r3)) ∧ Aside0 (impl_assemble.Inv n ws lb br) ∧ Aside0 (impl_assemble.St w g w1.heap.size (ls ++ [lst]) ws lb br v7 v8 wr))
 case atStart => exact ⟨0, [], [], [], rfl, Nat.zero_le _, ⟨Nat.zero_add _⟩, HGO, ⟨impl_assemble.Inv.nil⟩, HS⟩
 case round =>
  clear HS HGO
  obtain ⟨n, ws, lb, br, rfl, hn, HK, HGO, HI, HS⟩ := hrel
  obtain ⟨A7, c7, e7⟩ := Kd.R_slice HS.out.words
  subst e7
  obtain ⟨A8, c8, e8⟩ := Kd.R_slice HS.out.brs
  subst e8
  by_cases hlt : n < ls.length
  · have d3 : decide (n < ls.length) = true := decide_eq_true hlt
    have HLT := Aside0.mk hlt
    obtain ⟨x, hx⟩ : ∃ x, ls[n]? = some x := ⟨_, List.getElem?_eq_getElem hlt⟩
    have cx : wr.cell? ⟨g, n, none⟩ = some (.string x) := by rw [blk_cell HS.out.lines n]; simp; rw [List.getElem?_append_left (by simpa using hlt)]; simp [hx]
    have hdrop : ls.drop n = x :: ls.drop (n + 1) := by rw [List.drop_eq_getElem_cons hlt]; rw [List.getElem?_eq_getElem hlt] at hx; rw [Option.some.inj hx]
    have hgo := HGO.out
    rw [hdrop] at hgo
    unfold impl_assemble.l0 at hgo
    obtain ⟨⟨k, op, a, b, c, imm, word, lab⟩, hrd, hgo⟩ := Option.bind_eq_some_iff.1 hgo
    dsimp only at hgo
    have LS := Aside0.mk (impl_assemble.lab_size x _ hrd)
    have HWR := Aside0.mk (show wrap64 ((n : Int) + 1) = (n : Int) + 1 by unfold wrap64; have := HLEN.out; omega)
    clear hdrop HGO hx
    by_cases hsz : x.size ≤ 80
    case neg =>
     have dz : decide ((x.size : Int) ≤ 80) = false := decide_eq_false (by omega)
     have dz2 : decide (x.size ≤ 80) = false := decide_eq_false (by omega)
     unfold impl_assemble.rd at hrd
     rw [if_neg hsz] at hrd
     have hk := congrArg (fun q : Int × Int × Int × Int × Int × Int × Int × ByteArray => q.1) (Option.some.inj hrd)
     have hk : (0 : Int) = k := hk
     subst hk
     rw [if_pos rfl] at hgo
     simp only [Option.some.injEq, Prod.mk.injEq] at hgo
     obtain ⟨rfl, rfl, rfl⟩ := hgo
     clear hrd hsz
     go_wp2_with (first | ((with_reducible refine gate_dst (N := 12) rfl ?_); refine box_event ?hg (N := 12) ?hd (cs := #[.int .i64 0, .int .i64 0, .int .i64 0, .int .i64 0, .int .i64 0, .int .i64 0, .int .u32 0, .string ⟨#[]⟩]) (t := 64) ?hr ?_; (case hd => rfl); (case hg => rfl); (case hr => first | (go_simp; done) | (go_simp; rfl)); intro gb hg_ w2 hbox hb_; have n0_ := Aside0.mk (HS.out.mono hb_); have n1_ := Aside0.mk hbox; have n2_ := Aside0.mk (show w.heap.size ≤ gb by rw [hg_]; exact below_size HS.out.below); clear hg_ hbox hb_; have HS1 := n0_; have BKgb := n1_; have GEgb := n2_; clear n0_ n1_ n2_; have uzgb0 : w2.cell? ⟨gb, 0, none⟩ = some (.int .i64 0) := (blk_cell BKgb.out 0).trans rfl; have uzgb1 : w2.cell? ⟨gb, 1, none⟩ = some (.int .i64 0) := (blk_cell BKgb.out 1).trans rfl; have uzgb2 : w2.cell? ⟨gb, 2, none⟩ = some (.int .i64 0) := (blk_cell BKgb.out 2).trans rfl; have uzgb3 : w2.cell? ⟨gb, 3, none⟩ = some (.int .i64 0) := (blk_cell BKgb.out 3).trans rfl; have uzgb4 : w2.cell? ⟨gb, 4, none⟩ = some (.int .i64 0) := (blk_cell BKgb.out 4).trans rfl; have uzgb5 : w2.cell? ⟨gb, 5, none⟩ = some (.int .i64 0) := (blk_cell BKgb.out 5).trans rfl; have uzgb6 : w2.cell? ⟨gb, 6, none⟩ = some (.int .u32 0) := (blk_cell BKgb.out 6).trans rfl; have uzgb7 : w2.cell? ⟨gb, 7, none⟩ = some (.string ⟨#[]⟩) := (blk_cell BKgb.out 7).trans rfl; have fzgb0 := blk_frozen BKgb.out 0; have fzgb1 := blk_frozen BKgb.out 1; have fzgb2 := blk_frozen BKgb.out 2; have fzgb3 := blk_frozen BKgb.out 3; have fzgb4 := blk_frozen BKgb.out 4; have fzgb5 := blk_frozen BKgb.out 5; have fzgb6 := blk_frozen BKgb.out 6; have fzgb7 := blk_frozen BKgb.out 7))
     rw [HWR.out]
     go_ret3
     exact ⟨_, rfl, Kd.R_nil _ _ _ _ _, (HS1.out.box BKgb.out GEgb.out (by decide) (by decide) (by decide) _ _ _ _ _ _ _ _).1.below⟩
    case pos =>
     have dz : decide ((x.size : Int) ≤ 80) = true := decide_eq_true (by omega)
     have dz2 : decide (x.size ≤ 80) = true := decide_eq_true hsz
     have HRL := Lib.hid (fun W ht => impl_readLine.calls x k op a b c imm word lab W ht (by unfold impl_assemble.rd at hrd; rw [if_pos hsz] at hrd; exact hrd))
     clear hrd hsz
     go_upto_region 13 with (first | ((with_reducible refine gate_dst (N := 12) rfl ?_); refine box_event ?hg (N := 12) ?hd (cs := #[.int .i64 0, .int .i64 0, .int .i64 0, .int .i64 0, .int .i64 0, .int .i64 0, .int .u32 0, .string ⟨#[]⟩]) (t := 64) ?hr ?_; (case hd => rfl); (case hg => rfl); (case hr => first | (go_simp; done) | (go_simp; rfl)); intro gb hg_ w2 hbox hb_; have n0_ := Aside0.mk (HS.out.mono hb_); have n1_ := Aside0.mk hbox; have n2_ := Aside0.mk (show w.heap.size ≤ gb by rw [hg_]; exact below_size HS.out.below); clear hg_ hbox hb_; have HS1 := n0_; have BKgb := n1_; have GEgb := n2_; clear n0_ n1_ n2_; have uzgb0 : w2.cell? ⟨gb, 0, none⟩ = some (.int .i64 0) := (blk_cell BKgb.out 0).trans rfl; have uzgb1 : w2.cell? ⟨gb, 1, none⟩ = some (.int .i64 0) := (blk_cell BKgb.out 1).trans rfl; have uzgb2 : w2.cell? ⟨gb, 2, none⟩ = some (.int .i64 0) := (blk_cell BKgb.out 2).trans rfl; have uzgb3 : w2.cell? ⟨gb, 3, none⟩ = some (.int .i64 0) := (blk_cell BKgb.out 3).trans rfl; have uzgb4 : w2.cell? ⟨gb, 4, none⟩ = some (.int .i64 0) := (blk_cell BKgb.out 4).trans rfl; have uzgb5 : w2.cell? ⟨gb, 5, none⟩ = some (.int .i64 0) := (blk_cell BKgb.out 5).trans rfl; have uzgb6 : w2.cell? ⟨gb, 6, none⟩ = some (.int .u32 0) := (blk_cell BKgb.out 6).trans rfl; have uzgb7 : w2.cell? ⟨gb, 7, none⟩ = some (.string ⟨#[]⟩) := (blk_cell BKgb.out 7).trans rfl; have fzgb0 := blk_frozen BKgb.out 0; have fzgb1 := blk_frozen BKgb.out 1; have fzgb2 := blk_frozen BKgb.out 2; have fzgb3 := blk_frozen BKgb.out 3; have fzgb4 := blk_frozen BKgb.out 4; have fzgb5 := blk_frozen BKgb.out 5; have fzgb6 := blk_frozen BKgb.out 6; have fzgb7 := blk_frozen BKgb.out 7) | ((with_reducible refine (HRL.out _ ?hT).mono ?_); (case hT => exact HT.out.below (HS1.out.box BKgb.out GEgb.out (by decide) (by decide) (by decide) _ _ _ _ _ _ _ _).1.below); rintro e w3 ⟨rfl, hb_⟩; have n0_ := Aside0.mk ((HS1.out.box BKgb.out GEgb.out (by decide) (by decide) (by decide) _ _ _ _ _ _ _ _).1.mono hb_); have n1_ := Aside0.mk (blk_below (HS1.out.box BKgb.out GEgb.out (by decide) (by decide) (by decide) _ _ _ _ _ _ _ _).2 hb_); clear hb_ HS1 BKgb; clear uzgb0 fzgb0 uzgb1 fzgb1 uzgb2 fzgb2 uzgb3 fzgb3 uzgb4 fzgb4 uzgb5 fzgb5 uzgb6 fzgb6 uzgb7 fzgb7; have HS3 := n0_; have BKgb := n1_; clear n0_ n1_; have uy0 : w3.cell? ⟨gb, 0, none⟩ = some (.int .i64 0) := (blk_cell BKgb.out 0).trans rfl; have uy1 : w3.cell? ⟨gb, 1, none⟩ = some (.int .i64 0) := (blk_cell BKgb.out 1).trans rfl; have uy2 : w3.cell? ⟨gb, 2, none⟩ = some (.int .i64 0) := (blk_cell BKgb.out 2).trans rfl; have uy3 : w3.cell? ⟨gb, 3, none⟩ = some (.int .i64 0) := (blk_cell BKgb.out 3).trans rfl; have uy4 : w3.cell? ⟨gb, 4, none⟩ = some (.int .i64 0) := (blk_cell BKgb.out 4).trans rfl; have uy5 : w3.cell? ⟨gb, 5, none⟩ = some (.int .i64 0) := (blk_cell BKgb.out 5).trans rfl; have uy6 : w3.cell? ⟨gb, 6, none⟩ = some (.int .u32 0) := (blk_cell BKgb.out 6).trans rfl; have uy7 : w3.cell? ⟨gb, 7, none⟩ = some (.string ⟨#[]⟩) := (blk_cell BKgb.out 7).trans rfl; have fy0 := blk_frozen BKgb.out 0; have fy1 := blk_frozen BKgb.out 1; have fy2 := blk_frozen BKgb.out 2; have fy3 := blk_frozen BKgb.out 3; have fy4 := blk_frozen BKgb.out 4; have fy5 := blk_frozen BKgb.out 5; have fy6 := blk_frozen BKgb.out 6; have fy7 := blk_frozen BKgb.out 7))
     (try simp only [Act.put, List.setIfInBounds_toArray, List.set_cons_zero, List.set_cons_succ])
     obtain ⟨s1, s2⟩ := HS3.out.box BKgb.out GEgb.out (by decide) (by decide) (by decide) (.int .i64 k) (.int .i64 op) (.int .i64 a) (.int .i64 b) (.int .i64 c) (.int .i64 imm) (.int .u32 word) (.string lab)
     have HS4 := Aside0.mk s1
     have BK4 := Aside0.mk s2
     clear s1 s2 HS3 BKgb HRL HS uy0 fy0 uy1 fy1 uy2 fy2 uy3 fy3 uy4 fy4 uy5 fy5 uy6 fy6 uy7 fy7
     generalize (World.setCell (World.setCell (World.setCell (World.setCell (World.setCell (World.setCell (World.setCell (World.setCell w3 ⟨gb, 0, none⟩ (.int .i64 k)) ⟨gb, 1, none⟩ (.int .i64 op)) ⟨gb, 2, none⟩ (.int .i64 a)) ⟨gb, 3, none⟩ (.int .i64 b)) ⟨gb, 4, none⟩ (.int .i64 c)) ⟨gb, 5, none⟩ (.int .i64 imm)) ⟨gb, 6, none⟩ (.int .u32 word)) ⟨gb, 7, none⟩ (.string lab)) = wb at HS4 BK4 ⊢
     have ub0 : wb.cell? ⟨gb, 0, none⟩ = some (.int .i64 k) := (blk_cell BK4.out 0).trans rfl
     have ub1 : wb.cell? ⟨gb, 1, none⟩ = some (.int .i64 op) := (blk_cell BK4.out 1).trans rfl
     have ub2 : wb.cell? ⟨gb, 2, none⟩ = some (.int .i64 a) := (blk_cell BK4.out 2).trans rfl
     have ub3 : wb.cell? ⟨gb, 3, none⟩ = some (.int .i64 b) := (blk_cell BK4.out 3).trans rfl
     have ub4 : wb.cell? ⟨gb, 4, none⟩ = some (.int .i64 c) := (blk_cell BK4.out 4).trans rfl
     have ub5 : wb.cell? ⟨gb, 5, none⟩ = some (.int .i64 imm) := (blk_cell BK4.out 5).trans rfl
     have ub6 : wb.cell? ⟨gb, 6, none⟩ = some (.int .u32 word) := (blk_cell BK4.out 6).trans rfl
     have ub7 : wb.cell? ⟨gb, 7, none⟩ = some (.string lab) := (blk_cell BK4.out 7).trans rfl
     have fb0 := blk_frozen BK4.out 0
     have fb1 := blk_frozen BK4.out 1
     have fb2 := blk_frozen BK4.out 2
     have fb3 := blk_frozen BK4.out 3
     have fb4 := blk_frozen BK4.out 4
     have fb5 := blk_frozen BK4.out 5
     have fb6 := blk_frozen BK4.out 6
     have fb7 := blk_frozen BK4.out 7
     have HN := Aside0.mk (show n + 1 ≤ 600 by have := HLEN.out; have := HLT.out; omega)
     by_cases k0 : k = 0
     case pos =>
      rw [if_pos k0] at hgo
      have k0b0 : (k == 0) = true := beq_iff_eq.2 k0
      have k0b1 : (k != 0) = false := bne_eq_false_iff_eq.2 k0
      clear k0
      simp only [Option.some.injEq, Prod.mk.injEq] at hgo
      obtain ⟨rfl, rfl, rfl⟩ := hgo
      go_wp2
      rw [HWR.out]
      go_ret3
      exact ⟨_, rfl, Kd.R_nil _ _ _ _ _, HS4.out.below⟩
     case neg =>
     rw [if_neg k0] at hgo
     have k0b0 : (k == 0) = false := beq_eq_false_iff_ne.2 k0
     have k0b1 : (k != 0) = true := bne_iff_ne.2 k0
     clear k0
     by_cases k1 : k = 1
     case pos =>
      rw [if_pos k1] at hgo
      have k1b0 : (k == 1) = true := beq_iff_eq.2 k1
      have k1b1 : (k != 1) = false := bne_eq_false_iff_eq.2 k1
      clear k1
      obtain ⟨D, hm, hl⟩ := HS4.out.map
      have HM := Aside0.mk hm
      have HLB := Aside0.mk hl
      have hh := (hl.2 lab).1
      clear hm hl
      cases hf : impl_assemble.find lb lab with
      | some at_ =>
       rw [hf] at hgo hh
       have hh : Go.Maps.has D (.string lab.data.toList) = true := hh
       simp only [Option.some.injEq, Prod.mk.injEq] at hgo
       obtain ⟨rfl, rfl, rfl⟩ := hgo
       clear hf
       go_wp2_with (first | (at_lookup; refine wpList_lookup_own_ok_int _ rfl _ _ 77 rfl 9 3 .i64 impl_assemble.law Tryz.underlying77 Tryz.underlying3 (impl_assemble.zeroE _) w1.heap.size lb.length D rfl HM.out _ _ rfl (impl_assemble.key lab LS.out) ?_; intro c_ hat_ hwc_; (try rw [hh])))
       rw [HWR.out]
       go_ret3
       exact ⟨_, rfl, Kd.R_nil _ _ _ _ _, HS4.out.below⟩
      | none =>
       rw [hf] at hgo hh
       have hh : Go.Maps.has D (.string lab.data.toList) = false := hh
       have HGN := Aside0.mk hgo
       have HF := Aside0.mk hf
       clear hgo hf
       go_wp2_with (first | (at_lookup; refine wpList_lookup_own_ok_int _ rfl _ _ 77 rfl 9 3 .i64 impl_assemble.law Tryz.underlying77 Tryz.underlying3 (impl_assemble.zeroE _) w1.heap.size lb.length D rfl HM.out _ _ rfl (impl_assemble.key lab LS.out) ?_; intro c_ hat_ hwc_; (try rw [hh])) | (at_mapUpdate; refine wpList_mapUpdate_own _ rfl _ _ _ 77 rfl 9 3 impl_assemble.law Tryz.underlying77 _ w1.heap.size lb.length D rfl HM.out (by have h1 := HI.out.lb_; have h2 := HI.out.n_; unfold maxLen; omega) _ _ _ rfl rfl (impl_assemble.key lab LS.out) _ [] (impl_assemble.elemE (ws.length : Int) (by have := HI.out.ws_; omega)) ?_; intro w5 hown_ hgrow_; have n0_ := Aside0.mk (HS4.out.put HM.out hown_ (HLB.out.put lab (ws.length : Int) HF.out) hgrow_ GM.out); clear hown_ hgrow_; have HS5 := n0_; clear n0_))
       go_roundg (gk - 1)
       case measure => have := HK.out; have := HLT.out; omega
       case rel => exact ⟨n + 1, ws, (lb ++ [(lab, (ws.length : Int))]), br, by rw [HWR.out]; rfl, HLT.out, ⟨by have := HK.out; have := HLT.out; omega⟩, HGN, ⟨HI.out.label HN.out lab⟩, HS5⟩
     case neg =>
     rw [if_neg k1] at hgo
     have k1b0 : (k == 1) = false := beq_eq_false_iff_ne.2 k1
     have k1b1 : (k != 1) = true := bne_iff_ne.2 k1
     clear k1
     by_cases hw : ws.length = 256
     case pos =>
      rw [if_pos hw] at hgo
      have hwb : ((ws.length : Int) == 256) = true := beq_iff_eq.2 (by omega)
      simp only [Option.some.injEq, Prod.mk.injEq] at hgo
      obtain ⟨rfl, rfl, rfl⟩ := hgo
      clear hw
      go_wp2
      rw [HWR.out]
      go_ret3
      exact ⟨_, rfl, Kd.R_nil _ _ _ _ _, HS4.out.below⟩
     case neg =>
     rw [if_neg hw] at hgo
     have hwb : ((ws.length : Int) == 256) = false := beq_eq_false_iff_ne.2 (by omega)
     have HW := Aside0.mk hw
     clear hw
     by_cases k4 : k = 4
     case pos =>
      rw [if_pos k4] at hgo
      have k3 : k ≠ 3 := by omega
      have k4b0 : (k == 4) = true := beq_iff_eq.2 k4
      have k4b1 : (k != 4) = false := bne_eq_false_iff_eq.2 k4
      have k3b0 : (k == 3) = false := beq_eq_false_iff_ne.2 k3
      have k3b1 : (k != 3) = true := bne_iff_ne.2 k3
      clear k4 k3
      have HGN := Aside0.mk hgo
      clear hgo
      go_wp2_with (first | ((with_reducible refine gate_builtin (b := .append) (xs := #[.tmp 72, .tmp 82]) rfl ?_); at_builtin; refine Kd.R_append impl_assemble.kb (w0 := w) w.heap.size rfl (.tmp 72) (.tmp 82) 76 80 _ 72 rfl Tryz.underlying76 impl_assemble.infoBr rfl (by decide) (by omega) (.slice A8 br.length c8) br (⟨wrap64 ((n : Int) + 1), (ws.length : Int), op, a, b, c, imm, lab⟩ : impl_assemble.Br) (impl_assemble.cells (⟨wrap64 ((n : Int) + 1), (ws.length : Int), op, a, b, c, imm, lab⟩ : impl_assemble.Br)) (fun _ => True) (fun _ => False) rfl (by first | (go_simp; done) | (go_simp; rfl)) ?aP (fun _ hk => hk.elim) ?aF ?aO ?aB ?aS ?aL ?_; (case aP => exact rfl); (case aB => exact (by (with_reducible repeat (first | apply below_alloc | apply pw_below_drewN | apply below_drew1)); exact HS4.out.below)); (case aF => exact (fun _ _ => trivial)); (case aO => exact (by (with_reducible repeat (first | apply Kd.R_alloc | apply Kd.R_drewN | apply Kd.R_drew)); exact HS4.out.brs)); (case aS => exact (below_size (by (with_reducible repeat (first | apply below_alloc | apply pw_below_drewN | apply below_drew1)); exact HS4.out.below))); (case aL => have := HI.out.br_; have := HI.out.n_; omega); intro v5 w5 ho_ hb_ hg_ hat_; rw [HWR.out] at ho_; have n0_ := Aside0.mk (impl_assemble.St.branch (by (with_reducible repeat (first | apply impl_assemble.St.alloc | apply impl_assemble.St.drewN | apply impl_assemble.St.drew)); exact HS4.out) ho_ hb_ hg_); have n1_ := Aside0.mk (blk_grown (g := gb) (by (with_reducible repeat (first | refine blk_drewN ?_ _ | refine blk_drew ?_ | refine blk_alloc ?_ _)); exact BK4.out) hg_ (Kd.R_ne HS4.out.brs BK4.out (by decide))); clear ho_ hb_ hg_ hat_; have HS5 := n0_; have BK5 := n1_; clear n0_ n1_; have ud0 : w5.cell? ⟨gb, 0, none⟩ = some (.int .i64 k) := (blk_cell BK5.out 0).trans rfl; have ud1 : w5.cell? ⟨gb, 1, none⟩ = some (.int .i64 op) := (blk_cell BK5.out 1).trans rfl; have ud2 : w5.cell? ⟨gb, 2, none⟩ = some (.int .i64 a) := (blk_cell BK5.out 2).trans rfl; have ud3 : w5.cell? ⟨gb, 3, none⟩ = some (.int .i64 b) := (blk_cell BK5.out 3).trans rfl; have ud4 : w5.cell? ⟨gb, 4, none⟩ = some (.int .i64 c) := (blk_cell BK5.out 4).trans rfl; have ud5 : w5.cell? ⟨gb, 5, none⟩ = some (.int .i64 imm) := (blk_cell BK5.out 5).trans rfl; have ud6 : w5.cell? ⟨gb, 6, none⟩ = some (.int .u32 word) := (blk_cell BK5.out 6).trans rfl; have ud7 : w5.cell? ⟨gb, 7, none⟩ = some (.string lab) := (blk_cell BK5.out 7).trans rfl; have fd0 := blk_frozen BK5.out 0; have fd1 := blk_frozen BK5.out 1; have fd2 := blk_frozen BK5.out 2; have fd3 := blk_frozen BK5.out 3; have fd4 := blk_frozen BK5.out 4; have fd5 := blk_frozen BK5.out 5; have fd6 := blk_frozen BK5.out 6; have fd7 := blk_frozen BK5.out 7) | ((with_reducible refine gate_builtin (b := .append) (xs := #[.tmp 92, .tmp 94]) rfl ?_); at_builtin; refine Kd.R_append (Kd.int .u32) (w0 := w) w.heap.size rfl (.tmp 92) (.tmp 94) 25 44 (.int .u32 0) 4 rfl Tryz.underlying25 impl_assemble.infoW rfl (by decide) (by omega) (.slice A7 ws.length c7) ws word [.int .u32 word] (fun _ => True) (fun _ => False) rfl (by first | (go_simp; done) | (go_simp; rfl)) ?aP (fun _ hk => hk.elim) ?aF ?aO ?aB ?aS ?aL ?_; (case aP => exact rfl); (case aB => exact (by (with_reducible repeat (first | apply below_alloc | apply pw_below_drewN | apply below_drew1)); exact HS5.out.below)); (case aF => exact (fun _ _ => trivial)); (case aO => exact (by (with_reducible repeat (first | apply Kd.R_alloc | apply Kd.R_drewN | apply Kd.R_drew)); exact HS5.out.words)); (case aS => exact (below_size (by (with_reducible repeat (first | apply below_alloc | apply pw_below_drewN | apply below_drew1)); exact HS5.out.below))); (case aL => have := HI.out.ws_; omega); intro v6 w6 ho_ hb_ hg_ hat_; have n0_ := Aside0.mk (impl_assemble.St.word (by (with_reducible repeat (first | apply impl_assemble.St.alloc | apply impl_assemble.St.drewN | apply impl_assemble.St.drew)); exact HS5.out) ho_ hb_ hg_); clear ho_ hb_ hg_ hat_; have HS6 := n0_; clear n0_))
      go_roundg (gk - 1)
      case measure => have := HK.out; have := HLT.out; omega
      case rel => exact ⟨n + 1, (ws ++ [word]), lb, (br ++ [(⟨(n : Int) + 1, (ws.length : Int), op, a, b, c, imm, lab⟩ : impl_assemble.Br)]), by rw [HWR.out]; rfl, HLT.out, ⟨by have := HK.out; have := HLT.out; omega⟩, HGN, ⟨HI.out.branch HN.out HW.out word _ rfl LS.out⟩, HS6⟩
     case neg =>
     rw [if_neg k4] at hgo
     have k4b0 : (k == 4) = false := beq_eq_false_iff_ne.2 k4
     have k4b1 : (k != 4) = true := bne_iff_ne.2 k4
     clear k4
     by_cases k3 : k = 3
     case pos =>
      rw [if_pos k3] at hgo
      have k3b0 : (k == 3) = true := beq_iff_eq.2 k3
      have k3b1 : (k != 3) = false := bne_eq_false_iff_eq.2 k3
      clear k3
      obtain ⟨r, hr, hgo⟩ := Option.bind_eq_some_iff.1 hgo
      have HGN := Aside0.mk hgo
      have HE := Lib.hid (fun W => impl_encode.calls op a b c imm r W hr)
      clear hgo hr
      go_wp2_with (first | ((with_reducible refine (HE.out _).mono ?_); rintro e w5 ⟨rfl, hb_⟩; have n0_ := Aside0.mk (HS4.out.mono hb_); clear hb_; have HS5 := n0_; clear n0_) | ((with_reducible refine gate_builtin (b := .append) (xs := #[.tmp 92, .tmp 94]) rfl ?_); at_builtin; refine Kd.R_append (Kd.int .u32) (w0 := w) w.heap.size rfl (.tmp 92) (.tmp 94) 25 44 (.int .u32 0) 4 rfl Tryz.underlying25 impl_assemble.infoW rfl (by decide) (by omega) (.slice A7 ws.length c7) ws r [.int .u32 r] (fun _ => True) (fun _ => False) rfl (by first | (go_simp; done) | (go_simp; rfl)) ?aP (fun _ hk => hk.elim) ?aF ?aO ?aB ?aS ?aL ?_; (case aP => exact rfl); (case aB => exact (by (with_reducible repeat (first | apply below_alloc | apply pw_below_drewN | apply below_drew1)); exact HS5.out.below)); (case aF => exact (fun _ _ => trivial)); (case aO => exact (by (with_reducible repeat (first | apply Kd.R_alloc | apply Kd.R_drewN | apply Kd.R_drew)); exact HS5.out.words)); (case aS => exact (below_size (by (with_reducible repeat (first | apply below_alloc | apply pw_below_drewN | apply below_drew1)); exact HS5.out.below))); (case aL => have := HI.out.ws_; omega); intro v6 w6 ho_ hb_ hg_ hat_; have n0_ := Aside0.mk (impl_assemble.St.word (by (with_reducible repeat (first | apply impl_assemble.St.alloc | apply impl_assemble.St.drewN | apply impl_assemble.St.drew)); exact HS5.out) ho_ hb_ hg_); clear ho_ hb_ hg_ hat_; have HS6 := n0_; clear n0_))
      go_roundg (gk - 1)
      case measure => have := HK.out; have := HLT.out; omega
      case rel => exact ⟨n + 1, (ws ++ [r]), lb, br, by rw [HWR.out]; rfl, HLT.out, ⟨by have := HK.out; have := HLT.out; omega⟩, HGN, ⟨HI.out.word HN.out HW.out r⟩, HS6⟩
     case neg =>
     rw [if_neg k3] at hgo
     have k3b0 : (k == 3) = false := beq_eq_false_iff_ne.2 k3
     have k3b1 : (k != 3) = true := bne_iff_ne.2 k3
     clear k3
     have HGN := Aside0.mk hgo
     clear hgo
     go_wp2_with (first | ((with_reducible refine gate_builtin (b := .append) (xs := #[.tmp 92, .tmp 94]) rfl ?_); at_builtin; refine Kd.R_append (Kd.int .u32) (w0 := w) w.heap.size rfl (.tmp 92) (.tmp 94) 25 44 (.int .u32 0) 4 rfl Tryz.underlying25 impl_assemble.infoW rfl (by decide) (by omega) (.slice A7 ws.length c7) ws word [.int .u32 word] (fun _ => True) (fun _ => False) rfl (by first | (go_simp; done) | (go_simp; rfl)) ?aP (fun _ hk => hk.elim) ?aF ?aO ?aB ?aS ?aL ?_; (case aP => exact rfl); (case aB => exact (by (with_reducible repeat (first | apply below_alloc | apply pw_below_drewN | apply below_drew1)); exact HS4.out.below)); (case aF => exact (fun _ _ => trivial)); (case aO => exact (by (with_reducible repeat (first | apply Kd.R_alloc | apply Kd.R_drewN | apply Kd.R_drew)); exact HS4.out.words)); (case aS => exact (below_size (by (with_reducible repeat (first | apply below_alloc | apply pw_below_drewN | apply below_drew1)); exact HS4.out.below))); (case aL => have := HI.out.ws_; omega); intro v6 w6 ho_ hb_ hg_ hat_; have n0_ := Aside0.mk (impl_assemble.St.word (by (with_reducible repeat (first | apply impl_assemble.St.alloc | apply impl_assemble.St.drewN | apply impl_assemble.St.drew)); exact HS4.out) ho_ hb_ hg_); clear ho_ hb_ hg_ hat_; have HS6 := n0_; clear n0_))
     go_roundg (gk - 1)
     case measure => have := HK.out; have := HLT.out; omega
     case rel => exact ⟨n + 1, (ws ++ [word]), lb, br, by rw [HWR.out]; rfl, HLT.out, ⟨by have := HK.out; have := HLT.out; omega⟩, HGN, ⟨HI.out.word HN.out HW.out word⟩, HS6⟩
  · have d3 : decide (n < ls.length) = false := decide_eq_false hlt
    have hnil : ls.drop n = [] := List.drop_eq_nil_of_le (by omega)
    have hgo := HGO.out
    rw [hnil] at hgo
    unfold impl_assemble.l0 at hgo
    have HGO2 := Aside0.mk hgo
    clear hnil hlt hgo HGO
    go_wp2
    go_loopg [99] (br.length + 1) (fun gk v99 wq => ∃ (m : Nat) (ws2 : List Int), v99 = .int .i64 m ∧ m ≤ br.length ∧ Aside0 (m + gk = br.length + 1) ∧ Aside0 (impl_assemble.l1 lb (br.drop m) ws2 = some (r1, r2, r3)) ∧ Aside0 (ws2.length = ws.length) ∧ Aside0 (impl_assemble.St w g w1.heap.size (ls ++ [lst]) ws2 lb br (.slice A7 ws.length c7) (.slice A8 br.length c8) wq))
    case atStart => exact ⟨0, ws, rfl, Nat.zero_le _, ⟨Nat.zero_add _⟩, HGO2, ⟨rfl⟩, HS⟩
    case round =>
     clear HS HGO2 HK
     obtain ⟨m, ws2, rfl, hm, HK, HGO, HL2, HS⟩ := hrel
     by_cases hlt : m < br.length
     case neg =>
      have d4 : decide (m < br.length) = false := decide_eq_false hlt
      have hgo := HGO.out
      rw [List.drop_eq_nil_of_le (by omega)] at hgo
      unfold impl_assemble.l1 at hgo
      simp only [Option.some.injEq, Prod.mk.injEq] at hgo
      obtain ⟨rfl, rfl, rfl⟩ := hgo
      clear hlt
      go_wp2
      go_ret3
      exact ⟨_, rfl, HS.out.words, HS.out.below⟩
     case pos =>
     have d4 : decide (m < br.length) = true := decide_eq_true hlt
     have HLT := Aside0.mk hlt
     have hdrop := List.drop_eq_getElem_cons hlt
     obtain ⟨ad, cs, e8, _, hK, hc⟩ := Kd.C_get (Kd.R_reads' HS.out.brs).2.2 (⟨0, 0, 0, 0, 0, 0, 0, ⟨#[]⟩⟩ : impl_assemble.Br) (m : Int) (by omega) (by omega)
     subst e8
     have hK : cs = impl_assemble.cells (br.getD m (⟨0, 0, 0, 0, 0, 0, 0, ⟨#[]⟩⟩ : impl_assemble.Br)) := hK
     have hg : br.getD m (⟨0, 0, 0, 0, 0, 0, 0, ⟨#[]⟩⟩ : impl_assemble.Br) = br[m] := by simp [List.getD, hlt]
     rw [hg] at hK
     have hy := HI.out.at_ br[m] (List.getElem_mem hlt)
     generalize br[m] = y at hK hdrop hy
     obtain ⟨yl, ya, yo, yA, yB, yC, yi, ys⟩ := y
     have hy : 0 ≤ ya ∧ ya < ws.length ∧ ys.size ≤ 80 := hy
     obtain ⟨jj, rfl⟩ : ∃ jj : Nat, ya = jj := ⟨ya.toNat, by omega⟩
     have hy : (0 : Int) ≤ (jj : Int) ∧ jj < ws.length ∧ ys.size ≤ 80 := ⟨hy.1, by omega, hy.2.2⟩
     have HY := Aside0.mk hy
     subst hK
     have hc : ∀ j u, (impl_assemble.cells ⟨yl, jj, yo, yA, yB, yC, yi, ys⟩)[j]? = some u → wr.cell? (ad.add (m * 8 + j)) = some u := hc
     have x0 : wr.cell? (ad.add (m * 8)) = some (.int .i64 yl) := hc 0 _ rfl
     have x1 : wr.cell? ⟨(ad.add (m * 8)).block, (ad.add (m * 8)).off + 1, none⟩ = some (.int .i64 jj) := by rw [← add_field _ _ 1 (by omega)]; exact hc 1 _ rfl
     have x2 : wr.cell? ⟨(ad.add (m * 8)).block, (ad.add (m * 8)).off + 2, none⟩ = some (.int .i64 yo) := by rw [← add_field _ _ 2 (by omega)]; exact hc 2 _ rfl
     have x3 : wr.cell? ⟨(ad.add (m * 8)).block, (ad.add (m * 8)).off + 3, none⟩ = some (.int .i64 yA) := by rw [← add_field _ _ 3 (by omega)]; exact hc 3 _ rfl
     have x4 : wr.cell? ⟨(ad.add (m * 8)).block, (ad.add (m * 8)).off + 4, none⟩ = some (.int .i64 yB) := by rw [← add_field _ _ 4 (by omega)]; exact hc 4 _ rfl
     have x5 : wr.cell? ⟨(ad.add (m * 8)).block, (ad.add (m * 8)).off + 5, none⟩ = some (.int .i64 yC) := by rw [← add_field _ _ 5 (by omega)]; exact hc 5 _ rfl
     have x6 : wr.cell? ⟨(ad.add (m * 8)).block, (ad.add (m * 8)).off + 6, none⟩ = some (.int .i64 yi) := by rw [← add_field _ _ 6 (by omega)]; exact hc 6 _ rfl
     have x7 : wr.cell? ⟨(ad.add (m * 8)).block, (ad.add (m * 8)).off + 7, none⟩ = some (.string ys) := by rw [← add_field _ _ 7 (by omega)]; exact hc 7 _ rfl
     have hgo := HGO.out
     rw [hdrop] at hgo
     unfold impl_assemble.l1 at hgo
     dsimp only at hgo
     have HWR := Aside0.mk (show wrap64 ((m : Int) + 1) = (m : Int) + 1 by unfold wrap64; have := HI.out.br_; have := HI.out.n_; omega)
     clear hc hg hdrop hy HGO
     go_upto_region 32 with (first | ((with_reducible refine gate_dst (N := 17) rfl ?_); refine box_event ?hg (N := 17) ?hd (cs := #[.int .i64 0, .int .i64 0, .int .i64 0, .int .i64 0, .int .i64 0, .int .i64 0, .int .i64 0, .string ⟨#[]⟩]) (t := 80) ?hr ?_; (case hd => rfl); (case hg => rfl); (case hr => first | (go_simp; done) | (go_simp; rfl)); intro gb hg_ w2 hbox hb_; have n0_ := Aside0.mk (HS.out.mono hb_); have n1_ := Aside0.mk hbox; have n2_ := Aside0.mk (show w.heap.size ≤ gb by rw [hg_]; exact below_size HS.out.below); have NEgb := Aside0.mk (show some gb ≠ (Value.slice (some ad) br.length c8).ownBlock by rw [hg_]; exact Kd.R_ne_new HS.out.brs 0); clear hg_ hbox hb_; have HS1 := n0_; have BKgb := n1_; have GEgb := n2_; clear n0_ n1_ n2_; have uzgb0 : w2.cell? ⟨gb, 0, none⟩ = some (.int .i64 0) := (blk_cell BKgb.out 0).trans rfl; have uzgb1 : w2.cell? ⟨gb, 1, none⟩ = some (.int .i64 0) := (blk_cell BKgb.out 1).trans rfl; have uzgb2 : w2.cell? ⟨gb, 2, none⟩ = some (.int .i64 0) := (blk_cell BKgb.out 2).trans rfl; have uzgb3 : w2.cell? ⟨gb, 3, none⟩ = some (.int .i64 0) := (blk_cell BKgb.out 3).trans rfl; have uzgb4 : w2.cell? ⟨gb, 4, none⟩ = some (.int .i64 0) := (blk_cell BKgb.out 4).trans rfl; have uzgb5 : w2.cell? ⟨gb, 5, none⟩ = some (.int .i64 0) := (blk_cell BKgb.out 5).trans rfl; have uzgb6 : w2.cell? ⟨gb, 6, none⟩ = some (.int .i64 0) := (blk_cell BKgb.out 6).trans rfl; have uzgb7 : w2.cell? ⟨gb, 7, none⟩ = some (.string ⟨#[]⟩) := (blk_cell BKgb.out 7).trans rfl; have fzgb0 := blk_frozen BKgb.out 0; have fzgb1 := blk_frozen BKgb.out 1; have fzgb2 := blk_frozen BKgb.out 2; have fzgb3 := blk_frozen BKgb.out 3; have fzgb4 := blk_frozen BKgb.out 4; have fzgb5 := blk_frozen BKgb.out 5; have fzgb6 := blk_frozen BKgb.out 6; have fzgb7 := blk_frozen BKgb.out 7))
     (try simp only [Act.put, List.setIfInBounds_toArray, List.set_cons_zero, List.set_cons_succ])
     obtain ⟨s1, s2⟩ := HS1.out.boxN BKgb.out GEgb.out (by decide) (by decide) NEgb.out (.int .i64 yl) (.int .i64 jj) (.int .i64 yo) (.int .i64 yA) (.int .i64 yB) (.int .i64 yC) (.int .i64 yi) (.string ys)
     have HS4 := Aside0.mk s1
     have BK4 := Aside0.mk s2
     clear s1 s2 HS1 BKgb HS x0 x1 x2 x3 x4 x5 x6 x7 uzgb0 fzgb0 uzgb1 fzgb1 uzgb2 fzgb2 uzgb3 fzgb3 uzgb4 fzgb4 uzgb5 fzgb5 uzgb6 fzgb6 uzgb7 fzgb7
     generalize (World.setCell (World.setCell (World.setCell (World.setCell (World.setCell (World.setCell (World.setCell (World.setCell w2 ⟨gb, 0, none⟩ (.int .i64 yl)) ⟨gb, 1, none⟩ (.int .i64 jj)) ⟨gb, 2, none⟩ (.int .i64 yo)) ⟨gb, 3, none⟩ (.int .i64 yA)) ⟨gb, 4, none⟩ (.int .i64 yB)) ⟨gb, 5, none⟩ (.int .i64 yC)) ⟨gb, 6, none⟩ (.int .i64 yi)) ⟨gb, 7, none⟩ (.string ys)) = wb at HS4 BK4 ⊢
     have ub0 : wb.cell? ⟨gb, 0, none⟩ = some (.int .i64 yl) := (blk_cell BK4.out 0).trans rfl
     have ub1 : wb.cell? ⟨gb, 1, none⟩ = some (.int .i64 jj) := (blk_cell BK4.out 1).trans rfl
     have ub2 : wb.cell? ⟨gb, 2, none⟩ = some (.int .i64 yo) := (blk_cell BK4.out 2).trans rfl
     have ub3 : wb.cell? ⟨gb, 3, none⟩ = some (.int .i64 yA) := (blk_cell BK4.out 3).trans rfl
     have ub4 : wb.cell? ⟨gb, 4, none⟩ = some (.int .i64 yB) := (blk_cell BK4.out 4).trans rfl
     have ub5 : wb.cell? ⟨gb, 5, none⟩ = some (.int .i64 yC) := (blk_cell BK4.out 5).trans rfl
     have ub6 : wb.cell? ⟨gb, 6, none⟩ = some (.int .i64 yi) := (blk_cell BK4.out 6).trans rfl
     have ub7 : wb.cell? ⟨gb, 7, none⟩ = some (.string ys) := (blk_cell BK4.out 7).trans rfl
     have fb0 := blk_frozen BK4.out 0
     have fb1 := blk_frozen BK4.out 1
     have fb2 := blk_frozen BK4.out 2
     have fb3 := blk_frozen BK4.out 3
     have fb4 := blk_frozen BK4.out 4
     have fb5 := blk_frozen BK4.out 5
     have fb6 := blk_frozen BK4.out 6
     have fb7 := blk_frozen BK4.out 7
     obtain ⟨D, hm, hl⟩ := HS4.out.map
     have HM := Aside0.mk hm
     have hh := (hl.2 ys).1
     have hv := (hl.2 ys).2
     clear hm hl
     cases hf : impl_assemble.find lb ys with
     | none =>
      rw [hf] at hgo hh
      have hh : Go.Maps.has D (.string ys.data.toList) = false := hh
      simp only [Option.some.injEq, Prod.mk.injEq] at hgo
      obtain ⟨rfl, rfl, rfl⟩ := hgo
      clear hf hv
      go_upto_region 34 with (first | (at_lookup; refine wpList_lookup_own_ok_int _ rfl _ _ 77 rfl 9 3 .i64 impl_assemble.law Tryz.underlying77 Tryz.underlying3 (impl_assemble.zeroE _) w1.heap.size lb.length D rfl HM.out _ _ rfl (impl_assemble.key ys HY.out.2.2) ?_; intro c_ hat_ hwc_; (try rw [hh])))
      go_region
      go_wp2
      go_ret3
      exact ⟨_, rfl, Kd.R_nil _ _ _ _ _, (by (with_reducible repeat (first | apply below_alloc | apply pw_below_drewN | apply below_drew1)); exact HS4.out.below)⟩
     | some at_ =>
      rw [hf] at hgo hh hv
      have hh : Go.Maps.has D (.string ys.data.toList) = true := hh
      have hv : D.atKey (.string ys.data.toList) (.lit (.int .i64 0)) = .lit (.int .i64 at_) := hv
      have HV := Aside0.mk (fun (c_ : Int) (h_ : D.atKey (.string ys.data.toList) (.lit (.int .i64 0)) = (.lit (.int .i64 c_) : DataW Unit)) => show at_ = c_ by rw [hv] at h_; injection h_ with h_; injection h_)
      have hval : 0 ≤ at_ ∧ at_ ≤ 256 := by
       obtain ⟨p, hp, e⟩ := impl_assemble.find_mem lb ys at_ hf
       rw [← e]; exact HI.out.val p hp
      have hya : jj < ws.length := HY.out.2.1
      have hws := HI.out.ws_
      have hw1 : wrap64 (at_ - jj) = at_ - jj := by unfold wrap64; omega
      obtain ⟨dl, hdl⟩ : ∃ dl, dl = at_ - jj - 1 := ⟨_, rfl⟩
      have hw2 : wrap64 (at_ - jj - 1) = dl := by rw [hdl]; unfold wrap64; omega
      dsimp only at hgo
      rw [← hdl] at hgo
      obtain ⟨q, hq, hgo⟩ := Option.bind_eq_some_iff.1 hgo
      have HIM := Lib.hid (fun W => impl_isImm.calls dl q W hq)
      clear hf hv hval hdl hws hya
      cases q with
      | false =>
       rw [if_neg (by simp)] at hgo
       simp only [Option.some.injEq, Prod.mk.injEq] at hgo
       obtain ⟨rfl, rfl, rfl⟩ := hgo
       clear hq
       go_upto_region 37 with (first | (at_lookup; refine wpList_lookup_own_ok_int _ rfl _ _ 77 rfl 9 3 .i64 impl_assemble.law Tryz.underlying77 Tryz.underlying3 (impl_assemble.zeroE _) w1.heap.size lb.length D rfl HM.out _ _ rfl (impl_assemble.key ys HY.out.2.2) ?_; intro c_ hat_ hwc_; (try rw [hh]); obtain rfl := HV.out c_ hat_; clear hat_ hwc_) | ((with_reducible refine (HIM.out _).mono ?_); rintro e w' ⟨rfl, nd_, rfl⟩))
       go_region
       go_wp2
       go_ret3
       exact ⟨_, rfl, Kd.R_nil _ _ _ _ _, (by (with_reducible repeat (first | apply below_alloc | apply pw_below_drewN | apply below_drew1)); exact below_set HS4.out.below GEgb.out)⟩
      | true =>
       rw [if_pos rfl] at hgo
       obtain ⟨r, hr, hgo⟩ := Option.bind_eq_some_iff.1 hgo
       have HGN := Aside0.mk hgo
       have HE := Lib.hid (fun W => impl_encode.calls yo yA yB yC dl r W hr)
       clear hgo hr hq
       go_upto_region 38 with (first | (at_lookup; refine wpList_lookup_own_ok_int _ rfl _ _ 77 rfl 9 3 .i64 impl_assemble.law Tryz.underlying77 Tryz.underlying3 (impl_assemble.zeroE _) w1.heap.size lb.length D rfl HM.out _ _ rfl (impl_assemble.key ys HY.out.2.2) ?_; intro c_ hat_ hwc_; (try rw [hh]); obtain rfl := HV.out c_ hat_; clear hat_ hwc_) | ((with_reducible refine (HIM.out _).mono ?_); rintro e w' ⟨rfl, nd_, rfl⟩))
       (try simp only [Act.put, List.setIfInBounds_toArray, List.set_cons_zero, List.set_cons_succ])
       have HS5 := Aside0.mk (impl_assemble.St.drewN (HS4.out.setN BK4.out GEgb.out (by decide) (by decide) NEgb.out 6 (.int .i64 dl)) nd_)
       have BK5 := Aside0.mk (blk_drewN (blk_put BK4.out 6 (.int .i64 dl) (cs' := #[.int .i64 yl, .int .i64 jj, .int .i64 yo, .int .i64 yA, .int .i64 yB, .int .i64 yC, .int .i64 dl, .string ys]) rfl) nd_)
       clear HS4 BK4 HM HV HIM hh hw1 hw2 ub0 fb0 ub1 fb1 ub2 fb2 ub3 fb3 ub4 fb4 ub5 fb5 ub6 fb6 ub7 fb7
       generalize (World.setCell wb ⟨gb, 6, none⟩ (.int .i64 dl)).drewN nd_ = wd at HS5 BK5 ⊢
       have ud0 : wd.cell? ⟨gb, 0, none⟩ = some (.int .i64 yl) := (blk_cell BK5.out 0).trans rfl
       have ud1 : wd.cell? ⟨gb, 1, none⟩ = some (.int .i64 jj) := (blk_cell BK5.out 1).trans rfl
       have ud2 : wd.cell? ⟨gb, 2, none⟩ = some (.int .i64 yo) := (blk_cell BK5.out 2).trans rfl
       have ud3 : wd.cell? ⟨gb, 3, none⟩ = some (.int .i64 yA) := (blk_cell BK5.out 3).trans rfl
       have ud4 : wd.cell? ⟨gb, 4, none⟩ = some (.int .i64 yB) := (blk_cell BK5.out 4).trans rfl
       have ud5 : wd.cell? ⟨gb, 5, none⟩ = some (.int .i64 yC) := (blk_cell BK5.out 5).trans rfl
       have ud6 : wd.cell? ⟨gb, 6, none⟩ = some (.int .i64 dl) := (blk_cell BK5.out 6).trans rfl
       have ud7 : wd.cell? ⟨gb, 7, none⟩ = some (.string ys) := (blk_cell BK5.out 7).trans rfl
       have fd0 := blk_frozen BK5.out 0
       have fd1 := blk_frozen BK5.out 1
       have fd2 := blk_frozen BK5.out 2
       have fd3 := blk_frozen BK5.out 3
       have fd4 := blk_frozen BK5.out 4
       have fd5 := blk_frozen BK5.out 5
       have fd6 := blk_frozen BK5.out 6
       have fd7 := blk_frozen BK5.out 7
       have hjj : jj < ws2.length := by have h1 := HL2.out; have h2 := HY.out.2.1; omega
       obtain ⟨g7, e7⟩ := impl_assemble.addr HS5.out.words (by have h1 := HY.out.2.1; omega)
       subst e7
       have hl2 : ws2.length = ws.length := HL2.out
       have HS5 := Aside0.mk (show impl_assemble.St w g w1.heap.size (ls ++ [lst]) ws2 lb br (.slice (some ⟨g7, 0, none⟩) ws2.length c7) (.slice (some ad) br.length c8) wd by rw [hl2]; exact HS5.out)
       have hjw : jj < ws.length := by omega
       obtain ⟨z1, z2⟩ := Kd.R_celln 0 HS5.out.words (jj : Int) (by omega) (by omega)
       rw [Int.toNat_natCast] at z1 z2
       clear hl2 hjj
       have HP := Lib.hid (fun (W : World) (h_ : Below wd.heap.size wd W) => Kd.R_celln 0 (HS5.out.mono h_).words (jj : Int) (by omega) (by have h1 := HL2.out; have h2 := HY.out.2.1; omega))
       clear HP
       have HGN2 := Aside0.mk (show impl_assemble.l1 lb (br.drop (m + 1)) (ws2.set jj r) = some (r1, r2, r3) by have h1 := HGN.out; rw [Int.toNat_natCast] at h1; exact h1)
       clear HGN
       go_region_with (first | ((with_reducible refine (HE.out _).mono ?_); rintro e w7 ⟨rfl, hb_⟩; have n0_ := Aside0.mk (impl_assemble.St.mono (by (with_reducible repeat (first | apply impl_assemble.St.alloc | apply impl_assemble.St.drewN | apply impl_assemble.St.drew)); exact HS5.out) hb_); have n1_ := Aside0.mk (blk_below (by (with_reducible repeat (first | refine blk_drewN ?_ _ | refine blk_drew ?_ | refine blk_alloc ?_ _)); exact BK5.out) hb_); clear hb_; have HS7 := n0_; have BK7 := n1_; clear n0_ n1_; obtain ⟨z3, z4⟩ := Kd.R_celln 0 HS7.out.words (jj : Int) (by omega) (by have h1 := HL2.out; have h2 := HY.out.2.1; omega); rw [Int.toNat_natCast] at z3 z4; have ue0 : w7.cell? ⟨gb, 0, none⟩ = some (.int .i64 yl) := (blk_cell BK7.out 0).trans rfl; have ue1 : w7.cell? ⟨gb, 1, none⟩ = some (.int .i64 jj) := (blk_cell BK7.out 1).trans rfl; have ue2 : w7.cell? ⟨gb, 2, none⟩ = some (.int .i64 yo) := (blk_cell BK7.out 2).trans rfl; have ue3 : w7.cell? ⟨gb, 3, none⟩ = some (.int .i64 yA) := (blk_cell BK7.out 3).trans rfl; have ue4 : w7.cell? ⟨gb, 4, none⟩ = some (.int .i64 yB) := (blk_cell BK7.out 4).trans rfl; have ue5 : w7.cell? ⟨gb, 5, none⟩ = some (.int .i64 yC) := (blk_cell BK7.out 5).trans rfl; have ue6 : w7.cell? ⟨gb, 6, none⟩ = some (.int .i64 dl) := (blk_cell BK7.out 6).trans rfl; have ue7 : w7.cell? ⟨gb, 7, none⟩ = some (.string ys) := (blk_cell BK7.out 7).trans rfl; have fe0 := blk_frozen BK7.out 0; have fe1 := blk_frozen BK7.out 1; have fe2 := blk_frozen BK7.out 2; have fe3 := blk_frozen BK7.out 3; have fe4 := blk_frozen BK7.out 4; have fe5 := blk_frozen BK7.out 5; have fe6 := blk_frozen BK7.out 6; have fe7 := blk_frozen BK7.out 7))
       all_goals go_wp2
       all_goals go_roundg (gk - 1)
       all_goals first | (have h1 := HK.out; have h2 := HLT.out; omega) | skip
       all_goals exact ⟨m + 1, ws2.set jj r, by rw [HWR.out]; rfl, HLT.out, ⟨by have h1 := HK.out; have h2 := HLT.out; omega⟩, HGN2, ⟨by rw [List.length_set]; exact HL2.out⟩, ⟨by (with_reducible repeat (first | apply impl_assemble.St.alloc | apply impl_assemble.St.drewN | apply impl_assemble.St.drew)); have h1 := HS7.out.store jj r; rw [HL2.out] at h1; exact h1⟩⟩
set_option maxHeartbeats 4000000 in
set_option maxRecDepth 100000 in
theorem impl_assemble.long (a0 : ByteArray) (w : World) (ht : Tab.TabsODEM w) (hs : a0.size ≤ 9223372036854775807) (h : ¬ (impl_assemble.fit a0 = true ∧ (impl_assemble.lines a0).length ≤ 600)) :
 Calls Tryz.prog 20 #[.string a0] w fun e w' => e = .returned (.tuple #[.slice none 0 0, .int .i64 1, .int .i64 0]) ∧ Below w.heap.size w w' := by
 have HL : Hid (Calls Tryz.prog 31 #[.string a0] w fun e w' => (∃ v, e = .returned (.tuple #[v, .bool false])) ∧ Below w.heap.size w w') := by
  refine Lib.hid ?_
  cases hf : impl_assemble.fit a0 with
  | false =>
   exact (impl_assemble.linesBad a0 w hs hf).mono fun e w' ⟨h1, h2⟩ => ⟨⟨_, h1⟩, h2⟩
  | true =>
   have hl : decide ((impl_assemble.lines a0).length ≤ 600) = false := decide_eq_false fun e => h ⟨hf, e⟩
   refine (impl_assemble.linesGood a0 w ht hf).mono ?_
   rintro e w' ⟨g, h1, _, _, h2⟩
   rw [hl] at h1
   exact ⟨⟨_, h1⟩, h2⟩
 clear h ht
 go_enter Tryz.func20, Tryz.ntmps20
 go_wp2_with (first | ((with_reducible refine HL.out.mono ?_); rintro e w1 ⟨⟨v, rfl⟩, hb⟩; have HB := Aside0.mk hb; clear hb))
 go_ret3
 exact ⟨rfl, HB.out⟩
theorem impl_assemble.calls (a0 : ByteArray) (r1 : List Int) (r2 : Int) (r3 : Int) (w : World) (ht : Tab.TabsODEM w) (h : impl_assemble.f a0 = some (r1, r2, r3)) :
 Calls Tryz.prog 20 #[.string a0] w fun e w' => ∃ v1_ : Value, e = .returned (.tuple #[v1_, .int .i64 r2, .int .i64 r3]) ∧ Kd.R (Kd.int .u32) 44 w' w.heap.size (fun _ => True) v1_ r1 ∧ Below w.heap.size w w' := by
 unfold impl_assemble.f at h
 by_cases hs : a0.size ≤ 9223372036854775807
 · rw [if_pos hs] at h
   by_cases hc : impl_assemble.fit a0 = true ∧ (impl_assemble.lines a0).length ≤ 600
   · rw [if_pos hc] at h
     exact impl_assemble.walk a0 r1 r2 r3 w ht hc.1 hc.2 h
   · rw [if_neg hc] at h
     simp only [Option.some.injEq, Prod.mk.injEq] at h
     obtain ⟨rfl, rfl, rfl⟩ := h
     exact (impl_assemble.long a0 w ht hs hc).mono fun e w' ⟨h1, h2⟩ => ⟨_, h1, Kd.R_nil _ _ _ _ _, h2⟩
 · rw [if_neg hs] at h; exact absurd h (by simp)

/-! ### impl_Assemble: function 9 -/
def impl_Assemble.f (a0 : ByteArray) : Option (List Int × Int × Int) := (impl_assemble.f a0).bind fun bt114 => (some (bt114.1, bt114.2.1, bt114.2.2))
set_option maxHeartbeats 8000000 in
set_option maxRecDepth 100000 in
theorem impl_Assemble.calls (a0 : ByteArray) (r1 : List Int) (r2 : Int) (r3 : Int) (w : World) (ht : Tab.TabsODEM w) (h : impl_Assemble.f a0 = some (r1, r2, r3)) :
 Calls Tryz.prog 9 #[.string a0] w fun e w' => ∃ v0_ : Value, e = .returned (.tuple #[v0_, .int .i64 r2, .int .i64 r3]) ∧ Kd.R (Kd.int .u32) 44 w' w.heap.size (fun _ => True) v0_ r1 ∧ Below w.heap.size w w' := by
 have HB := Aside0.mk (Below.refl w.heap.size w)
 have HTB := Aside0.mk ht
 clear ht
 have H : ((impl_assemble.f a0).bind fun bt114 => (some (bt114.1, bt114.2.1, bt114.2.2))) = some (r1, r2, r3) := h
 clear h
 replace H := Option.bind_eq_some_iff.mp H
 obtain ⟨⟨t114, t115, t116⟩, A20, H⟩ := H
 replace H : (some (t114, t115, t116)) = some (r1, r2, r3) := H
 have A2 := Aside0.mk A20
 clear A20
 simp only [Option.some.injEq, Prod.mk.injEq] at H
 obtain ⟨rfl, rfl, rfl⟩ := H
 go_enter Tryz.func9, Tryz.ntmps9
 go_wp2_with (first | ((with_reducible refine gate_callee (f := 20) rfl ?_); refine goesL_ (some 6) rfl rfl Tryz.func20 (by kernel_rfl) rfl #[.string a0] rfl (by (try simp only [List.map_toArray, List.map_cons, List.map_nil]); first | done | rfl | (simp only [List.length_drop, List.length_take]; rfl)) ?_; (with_reducible refine (impl_assemble.calls a0 t114 t115 t116 _ ?side1 A2.out).mono ?_); (case side1 => exact Tab.TabsODEM.below HTB.out (by repeat (first | (with_reducible first | exact HB.out | apply below_alloc | apply pw_below_drewN | apply below_drew1) | exact HB.out))); rintro e w3 ⟨v117, rfl, ho0, hb⟩; refine ⟨_, rfl, ?_⟩; have n0_ := Aside0.mk (Kd.R_lower ho0 (below_size (by repeat (first | (with_reducible first | exact HB.out | apply below_alloc | apply pw_below_drewN | apply below_drew1) | exact HB.out)))); have n1_ := Aside0.mk (below_step (by repeat (first | (with_reducible first | exact HB.out | apply below_alloc | apply pw_below_drewN | apply below_drew1) | exact HB.out)) hb); clear HB; have HO118 := n0_; have HB := n1_; clear n0_ n1_; (try clear hb); (try clear hb2); (try clear hk); (try clear hi); (try clear ho0)))
 go_ret3
 exact ⟨_, by first | rfl | (simp [errW_none, errW_some] <;> rfl) | (simp [*, errW_none, errW_some] <;> rfl), by (with_reducible repeat (first | apply Kd.R_alloc | apply Kd.R_drewN | apply Kd.R_drew)); exact HO118.out, by repeat (first | (with_reducible first | exact HB.out | apply below_alloc | apply pw_below_drewN | apply below_drew1) | exact HB.out)⟩

end Go.Proofs.YtaophlekfepkgaaGreatDoor.PFnAssemble

/- Printed by a program out of the translation, with contracts of my own set in. -/
import Derived.Test.YtaophlekfepkgaaGreatDoorPFnAssemblex0
import Derived.Test.YtaophlekfepkgaaGreatDoorPFnAssemblex1
namespace Go.Proofs.YtaophlekfepkgaaGreatDoor.PFnAssemble
open Go.RowKit Go.Proofs.YtaophlekfepkgaaGreatDoorW.PrintWords Go.Proofs.YtaophlekfepkgaaGreatDoorW.PrintLast Go.Proofs.YtaophlekfepkgaaGreatDoorW.PrintMore
attribute [local go_sem] max2_int min2_int max_two min_two max_three min_three max_four min_four   -- for this text's walks alone
set_option linter.unusedVariables false
set_option linter.unusedSimpArgs false

/-! ### impl_readLine: function 32 -/
/-- What a line is: nothing. -/
def impl_readLine.nil_ : Int × Int × Int × Int × Int × Int × Int × ByteArray := (0, 0, 0, 0, 0, 0, 0, (⟨#[]⟩ : ByteArray))
/-- A branch to a label. -/
def impl_readLine.br (k : Nat) (op a b c : Int) (w : ByteArray) : Option (Int × Int × Int × Int × Int × Int × Int × ByteArray) :=
 (impl_isBranch.f op).bind fun q => if q = true then ((impl_isLabel.f k w).bind fun l => if l = true then some (4, op, a, b, c, 0, 0, w) else some impl_readLine.nil_) else some impl_readLine.nil_
/-- Behind the registers. -/
def impl_readLine.fin (k : Nat) (op F a b c : Int) (ws : List ByteArray) : Option (Int × Int × Int × Int × Int × Int × Int × ByteArray) :=
 if F < 0 then some impl_readLine.nil_ else if F / 8 % 2 = 0 then (if ws = [] then some (3, op, a, b, c, 0, 0, (⟨#[]⟩ : ByteArray)) else some impl_readLine.nil_) else
  match ws with
  | [w] => (impl_DecNum.f w 8192).bind fun d => if d.2 = true then ((impl_isImm.f d.1).bind fun m => if m = true then some (3, op, a, b, c, d.1, 0, (⟨#[]⟩ : ByteArray)) else impl_readLine.br k op a b c w) else impl_readLine.br k op a b c w
  | _ => some impl_readLine.nil_
/-- The registers: n more rounds. -/
def impl_readLine.rd (k : Nat) (op F : Int) : Nat → Int → Int → Int → List ByteArray → Option (Int × Int × Int × Int × Int × Int × Int × ByteArray)
 | 0, a, b, c, ws => impl_readLine.fin k op F a b c ws
 | n + 1, a, b, c, ws => if F < 0 then impl_readLine.rd k op F n a b c ws else if F / 2 ^ (2 - n) % 2 = 0 then impl_readLine.rd k op F n a b c ws else
  match ws with
  | [] => some impl_readLine.nil_
  | w :: t => (impl_register.f w).bind fun g => if g.2 = true then impl_readLine.rd k op F n (if n = 2 then g.1 else a) (if n = 1 then g.1 else b) (if n = 0 then g.1 else c) t else some impl_readLine.nil_
/-- The words of a line. -/
def impl_readLine.ws (a0 : ByteArray) : List ByteArray := Lib.splitB (⟨#[32]⟩ : ByteArray) 0 (Lib.countB a0 (⟨#[32]⟩ : ByteArray)) a0
/-- A word's line, behind its first word. -/
def impl_readLine.wd (wt : List ByteArray) : Option (Int × Int × Int × Int × Int × Int × Int × ByteArray) :=
 match wt with
 | [x] => (impl_DecNum.f x 4294967295).bind fun d => if d.2 = true then (if d.1 < 0 then some impl_readLine.nil_ else some (2, 0, 0, 0, 0, 0, d.1 % 4294967296, (⟨#[]⟩ : ByteArray))) else some impl_readLine.nil_
 | _ => some impl_readLine.nil_
/-- A line that is no label. -/
def impl_readLine.go (k : Nat) (w0 : ByteArray) (wt : List ByteArray) : Option (Int × Int × Int × Int × Int × Int × Int × ByteArray) :=
 if w0.toList = ([46, 119, 111, 114, 100] : List UInt8) then impl_readLine.wd wt
 else (impl_formOf.f k (Lib.idxOfS ((List.range 33).map Tab.nm) w0)).bind fun F => impl_readLine.rd k (Lib.idxOfS ((List.range 33).map Tab.nm) w0) F 3 0 0 0 wt
/-- The name that a label's line has. -/
def impl_readLine.nm (w : ByteArray) : ByteArray := ⟨(Lib.trimSuffix w.data.toList (⟨#[58]⟩ : ByteArray).data.toList).toArray⟩
def impl_readLine.sx (w : ByteArray) : Bool := Lib.hasSuffix w.data.toList (⟨#[58]⟩ : ByteArray).data.toList
/-- A line of these words. -/
def impl_readLine.f1 (k : Nat) (w0 : ByteArray) (wt : List ByteArray) : Option (Int × Int × Int × Int × Int × Int × Int × ByteArray) :=
 if impl_readLine.sx w0 = true then (if wt = [] then ((impl_isLabel.f k (impl_readLine.nm w0)).bind fun l => if l = true then some (1, 0, 0, 0, 0, 0, 0, impl_readLine.nm w0) else impl_readLine.go k w0 wt) else impl_readLine.go k w0 wt) else impl_readLine.go k w0 wt
def impl_readLine.f0 (k : Nat) (a0 : ByteArray) : Option (Int × Int × Int × Int × Int × Int × Int × ByteArray) :=
 if a0.size ≤ 80 then impl_readLine.f1 k ((impl_readLine.ws a0).headD ByteArray.empty) (impl_readLine.ws a0).tail else none
theorem impl_readLine.split (a0 : ByteArray) (hs : a0.size ≤ 80) (W : World) (ht : Tab.TabsODEM W) :
 Calls Tryz.prog 55 #[.string a0, .string (⟨#[32]⟩ : ByteArray)] W fun e w' => ∃ g, e = .returned (.slice (some ⟨g, 0, none⟩) (impl_readLine.ws a0).length (impl_readLine.ws a0).length) ∧ w'.heap[g]? = some (.cells ((impl_readLine.ws a0).map Value.string).toArray 9 (0, 0)) ∧ W.heap.size ≤ g ∧ Below W.heap.size W w' := by
 obtain ⟨m, hm⟩ := ht.m
 refine (Tryz.strings_Split a0 (⟨#[32]⟩ : ByteArray) m W (by omega) hm (by decide)).mono ?_
 rintro e w' ⟨rfl, rfl⟩
 have hl : Lib.countB a0 (⟨#[32]⟩ : ByteArray) + 1 = (impl_readLine.ws a0).length := (Lib.splitB_all (⟨#[32]⟩ : ByteArray) (by decide) 0 _ a0 rfl).symm
 exact ⟨W.heap.size, by rw [hl], blk_new W _, Nat.le_refl _, below_alloc (Below.refl _ _) _⟩
theorem impl_readLine.cut (s : ByteArray) (hs : s.size ≤ 80) (W : World) : Calls Tryz.prog 56 #[.string s, .string (⟨#[58]⟩ : ByteArray)] W fun e w' => e = .returned (.tuple #[.string (impl_readLine.nm s), .bool (impl_readLine.sx s)]) ∧ w' = W :=
 Tryz.strings_CutSuffix s (⟨#[58]⟩ : ByteArray) W (by omega)
theorem impl_readLine.pieces : ∀ (k : Nat) (s : ByteArray), s.size ≤ 80 → ∀ x ∈ Lib.splitB (⟨#[32]⟩ : ByteArray) 0 k s, x.size ≤ 80
 | 0, s, hs, x, hx => by
  rw [Lib.splitB_zero, List.mem_singleton] at hx
  rw [hx]; exact hs
 | k + 1, s, hs, x, hx => by
  unfold Lib.splitB at hx
  split at hx
  · rw [List.mem_singleton] at hx
    rw [hx]; exact hs
  · rcases List.mem_cons.1 hx with rfl | hx
    · rw [ByteArray.size_extract]; omega
    · exact impl_readLine.pieces k _ (by rw [ByteArray.size_extract]; omega) x hx
theorem impl_readLine.words_size (a0 : ByteArray) (hs : a0.size ≤ 80) : ∀ x ∈ impl_readLine.ws a0, x.size ≤ 80 := impl_readLine.pieces _ a0 hs
theorem impl_readLine.ws_length (a0 : ByteArray) : (impl_readLine.ws a0).length = Lib.countB a0 (⟨#[32]⟩ : ByteArray) + 1 := Lib.splitB_all (⟨#[32]⟩ : ByteArray) (by decide) 0 _ a0 rfl
theorem impl_readLine.nm_size (w : ByteArray) : (impl_readLine.nm w).size ≤ w.size := Lib.trimSuffix_le w.data.toList (⟨#[58]⟩ : ByteArray).data.toList
theorem impl_readLine.index (x : ByteArray) (W : World) (ht : Tab.TabsODEM W) : Calls Tryz.prog 59 #[.slice (some ⟨0, 0, none⟩) 33 33, .string x] W fun e w' => e = .returned (.int .i64 (Lib.idxOfS ((List.range 33).map Tab.nm) x)) ∧ w' = W := by
 have hz : ∀ j, j < ((List.range 33).map Tab.nm).length → W.cell? ⟨0, 0 + j, none⟩ = some (.string (((List.range 33).map Tab.nm).getD j ByteArray.empty)) := by
  intro j hj
  have hj' : j < 33 := by simpa using hj
  rw [Nat.zero_add, ht.o j hj']
  simp [List.getD, hj']
 have e33 : ((List.range 33).map Tab.nm).take 33 = (List.range 33).map Tab.nm := List.take_of_length_le (by simp)
 have hx := Tryz.slices_Index_string 0 0 33 33 ((List.range 33).map Tab.nm) x W (by simp) (by decide) hz
 rw [e33] at hx
 exact hx
theorem impl_readLine.forms (k : Nat) (a F : Int) (h : impl_formOf.f k a = some F) : F = -1 ∨ F = 0 ∨ F = 1 ∨ F = 7 ∨ F = 8 ∨ F = 9 ∨ F = 10 ∨ F = 11 := by
 have h1 : ∀ (k : Nat) (x : Int) (b : Bool), impl_formOf.j1 k x b = some F → F = 9 ∨ F = 10 ∨ F = 1 ∨ F = 8 ∨ F = 11 := by
  intro k x b h
  cases k with
  | zero => simp [impl_formOf.j1] at h
  | succ k =>
   simp only [impl_formOf.j1] at h
   repeat' split at h
   all_goals (simp only [Option.some.injEq] at h; omega)
 have h0 : ∀ (k : Nat) (x : Int) (b : Bool), impl_formOf.j0 k x b = some F → F = 0 ∨ F = 9 ∨ F = 10 ∨ F = 1 ∨ F = 8 ∨ F = 11 := by
  intro k x b h
  cases k with
  | zero => simp [impl_formOf.j0] at h
  | succ k =>
   simp only [impl_formOf.j0] at h
   repeat' split at h
   all_goals first | (simp only [Option.some.injEq] at h; omega) | exact .inr (h1 _ _ _ h)
 have h3 : F = -1 ∨ F = 7 ∨ (F = 0 ∨ F = 9 ∨ F = 10 ∨ F = 1 ∨ F = 8 ∨ F = 11) := by
  unfold impl_formOf.f at h
  obtain ⟨b, _, h⟩ := Option.bind_eq_some_iff.1 h
  cases b with
  | false => rw [if_neg (by simp)] at h; simp only [Option.some.injEq] at h; omega
  | true =>
   rw [if_pos rfl] at h
   obtain ⟨b2, _, h⟩ := Option.bind_eq_some_iff.1 h
   cases b2 with
   | true => rw [if_pos rfl] at h; simp only [Option.some.injEq] at h; omega
   | false =>
    rw [if_neg (by simp)] at h
    repeat' split at h
    all_goals exact .inr (.inr (h0 _ _ _ h))
 omega
theorem impl_readLine.rd_skip (k : Nat) (op F : Int) (n : Nat) (a b c : Int) (ws : List ByteArray) (h : F < 0 ∨ F / 2 ^ (2 - n) % 2 = 0) : impl_readLine.rd k op F (n + 1) a b c ws = impl_readLine.rd k op F n a b c ws := by
 conv => lhs; unfold impl_readLine.rd
 rcases h with h | h
 · rw [if_pos h]
 · split
   · rfl
   · rfl
theorem impl_readLine.rd_read (k : Nat) (op F : Int) (n : Nat) (a b c : Int) (ws : List ByteArray) (h : ¬ F < 0) (h2 : ¬ F / 2 ^ (2 - n) % 2 = 0) : impl_readLine.rd k op F (n + 1) a b c ws = (match ws with
 | [] => some impl_readLine.nil_
 | w :: t => (impl_register.f w).bind fun g => if g.2 = true then impl_readLine.rd k op F n (if n = 2 then g.1 else a) (if n = 1 then g.1 else b) (if n = 0 then g.1 else c) t else some impl_readLine.nil_) := by
 conv => lhs; unfold impl_readLine.rd
 rw [if_neg h, if_neg h2]
/-- The words wk stand in the block of all words, from off on. -/
def impl_readLine.At (l : List ByteArray) (off : Nat) (wk : List ByteArray) : Prop := ∀ j x, wk[j]? = some x → (l.map Value.string).toArray[off + j]? = some (.string x)
theorem impl_readLine.At.nil (l : List ByteArray) (off : Nat) : impl_readLine.At l off [] := fun j x h => by simp at h
theorem impl_readLine.At.tail (a : ByteArray) (t : List ByteArray) : impl_readLine.At (a :: t) 1 t := fun j x h => by rw [Nat.add_comm]; simp [h]
theorem impl_readLine.At.next {l : List ByteArray} {off : Nat} {x : ByteArray} {t : List ByteArray} (h : impl_readLine.At l off (x :: t)) : impl_readLine.At l (off + 1) t := fun j y hy => by
 have := h (j + 1) y (by simpa using hy)
 rw [show off + 1 + j = off + (j + 1) by omega]; exact this
theorem impl_readLine.At.step {l : List ByteArray} {off : Nat} {x : ByteArray} {t : List ByteArray} (h : impl_readLine.At l off (x :: t)) : impl_readLine.At l (if t = [] then off else off + 1) t := by
 by_cases e : t = []
 · subst e; exact impl_readLine.At.nil _ _
 · rw [if_neg e]; exact h.next
theorem impl_readLine.fin_reg (k : Nat) (op F a b c : Int) (ws : List ByteArray) (h : ¬ F < 0) (h8 : F / 8 % 2 = 0) : impl_readLine.fin k op F a b c ws = (if ws = [] then some (3, op, a, b, c, 0, 0, (⟨#[]⟩ : ByteArray)) else some impl_readLine.nil_) := by
 unfold impl_readLine.fin
 rw [if_neg h, if_pos h8]
theorem impl_readLine.fin_imm (k : Nat) (op F a b c : Int) (ws : List ByteArray) (h : ¬ F < 0) (h8 : ¬ F / 8 % 2 = 0) : impl_readLine.fin k op F a b c ws = (match ws with
 | [w] => (impl_DecNum.f w 8192).bind fun d => if d.2 = true then ((impl_isImm.f d.1).bind fun m => if m = true then some (3, op, a, b, c, d.1, 0, (⟨#[]⟩ : ByteArray)) else impl_readLine.br k op a b c w) else impl_readLine.br k op a b c w
 | _ => some impl_readLine.nil_) := by
 unfold impl_readLine.fin
 rw [if_neg h, if_neg h8]
/-- A line whose first word is no label's name with its colon, or that has more words. -/
def impl_readLine.NoLabel (k : Nat) (w0 : ByteArray) (wt : List ByteArray) (sb : Bool) : Prop := sb = false ∨ (sb = true ∧ wt ≠ []) ∨ (sb = true ∧ wt = [] ∧ impl_isLabel.f k (impl_readLine.nm w0) = some false)
set_option maxHeartbeats 16000000 in
set_option maxRecDepth 100000 in
theorem impl_readLine.instm1 (k : Nat) (a0 : ByteArray) (hs : a0.size ≤ 80) (w0 : ByteArray) (wt : List ByteArray) (hws : impl_readLine.ws a0 = w0 :: wt) (sb : Bool) (hsb : impl_readLine.sx w0 = sb) (HNL : Hid (impl_readLine.NoLabel k w0 wt sb)) (r1 : Int) (r2 : Int) (r3 : Int) (r4 : Int) (r5 : Int) (r6 : Int) (r7 : Int) (r8 : ByteArray) (w : World) (HT : Aside0 (Tab.TabsODEM w)) (op : Int) (hop : Lib.idxOfS ((List.range 33).map Tab.nm) w0 = op) (hdot : (w0.toList == ([46, 119, 111, 114, 100] : List UInt8)) = false) (HF : Hid (impl_formOf.f k op = some (-1)))
 (H : Aside0 (impl_readLine.rd k op (-1) 3 0 0 0 wt = some (r1, r2, r3, r4, r5, r6, r7, r8))) :
 Calls Tryz.prog 32 #[.string a0] w fun e w' => e = .returned (.agg #[.int .i64 r1, .int .i64 r2, .int .i64 r3, .int .i64 r4, .int .i64 r5, .int .i64 r6, .int .u32 r7, .string r8]) ∧ Below w.heap.size w w' := by
 have hu33 := Tryz.underlying64
 have hu25 := Tryz.underlying48
 have HSP := Lib.hid (impl_readLine.split a0 hs)
 have hmem := impl_readLine.words_size a0 hs
 rw [hws] at HSP hmem
 have HCU := Lib.hid (impl_readLine.cut w0 (hmem w0 (by simp)))
 rw [hsb] at HCU
 have HIX := Lib.hid (fun W (ht : Tab.TabsODEM W) => impl_readLine.index w0 W ht)
 rw [hop] at HIX
 have HFC := Lib.hid (fun W => impl_formOf.calls k op (-1) W HF.out)
 clear hmem hs hws hop hsb
 go_enter Tryz.func32, Tryz.ntmps32
 have HB0 := Aside0.mk (Below.refl w.heap.size w)
 go_wp2_with (first | ((with_reducible refine gate_dst (N := 2) rfl ?_); refine box_event ?hg (N := 2) ?hd (cs := #[.int .i64 0, .int .i64 0, .int .i64 0, .int .i64 0, .int .i64 0, .int .i64 0, .int .u32 0, .string ⟨#[]⟩]) (t := 64) ?hr ?_; (case hd => rfl); (case hg => rfl); (case hr => first | (go_simp; done) | (go_simp; rfl)); intro g0 hg w0_ hbox hb; revert hbox hb hg))
 intro hg0 hbox hb0
 have GZ := Aside0.mk (show w.heap.size ≤ g0 by omega)
 have HB1 := Aside0.mk (below_step HB0.out hb0)
 have BR0 := Aside0.mk hbox
 clear hg0 hbox hb0 HB0
 go_wp2_with fail
 refine (HSP.out _ (HT.out.below HB1.out)).mono ?_
 rintro e w1 ⟨g1, rfl, hg1, hl1, hb1⟩
 have lt0_ : g0 < w0_.heap.size := blk_lt BR0.out
 have BR := Aside0.mk (blk_below BR0.out hb1)
 have BW := Aside0.mk hg1
 have HB := Aside0.mk (below_step HB1.out hb1)
 have NE := Aside0.mk (show g1 ≠ g0 by omega)
 clear BR0 HB1 lt0_
 have c0 : w1.cell? ⟨g1, 0, none⟩ = some (.string w0) := (blk_cell BW.out 0).trans rfl
 clear hg1 hl1 hb1
 go_upto_region 3 with (first | ((with_reducible refine (HCU.out _).mono ?_); rintro e w' ⟨rfl, rfl⟩))
 go_cut [34] from 16 (fun v34 wd => v34 = .bool false ∧ Aside0 (wd.heap[g0]? = some (.cells #[.int .i64 0, .int .i64 0, .int .i64 0, .int .i64 0, .int .i64 0, .int .i64 0, .int .u32 0, .string ⟨#[]⟩] 64 (0, 0))) ∧ Aside0 (wd.heap[g1]? = some (.cells ((w0 :: wt).map Value.string).toArray 9 (0, 0))) ∧ Aside0 (Below w.heap.size w wd))
 case first =>
  rcases HNL.out with rfl | ⟨rfl, hne⟩ | ⟨rfl, rfl, hl⟩
  · go_wp2
    go_meet
    case rel => exact ⟨rfl, BR, BW, HB⟩
  · have l1 : (((wt.length + 1 : Nat) : Int) == 1) = false := by
     have := List.length_pos_iff.2 hne
     simp; omega
    have l2 : ((wt.length : Int) + 1 == 1) = false := by
     have := List.length_pos_iff.2 hne
     simp; omega
    go_wp2
    go_meet
    case rel => exact ⟨rfl, BR, BW, HB⟩
  · have HLB := Lib.hid (fun W => impl_isLabel.calls k (impl_readLine.nm w0) false W hl)
    clear hl
    go_wp2_with ((with_reducible refine (HLB.out _).mono ?_); rintro e w' ⟨rfl, nd, rfl⟩)
    go_meet
    case rel => exact ⟨rfl, ⟨blk_drewN BR.out _⟩, ⟨blk_drewN BW.out _⟩, ⟨pw_below_drewN HB.out _⟩⟩
 clear BR BW HB c0
 obtain ⟨rfl, BR, BW, HB⟩ := hcut
 have c0 : wc.cell? ⟨g1, 0, none⟩ = some (.string w0) := (blk_cell BW.out 0).trans rfl
 clear HNL
 rename World => w'
 go_wp2
 go_cut [8] from 16 (fun v8 wc => ∃ g2, v8 = .pointer (some ⟨g2, 0, none⟩) ∧ wc.heap[g2]? = some (.cells #[.int .i64 op, .int .i64 0, .int .i64 0, .int .i64 0, .int .i64 0] 48 (0, 0)) ∧ w'.heap.size ≤ g2 ∧ Below w'.heap.size w' wc)
 case first =>
  have hlt : g1 < w'.heap.size := World.block_lt_of_cell? w' _ c0
  go_region_held3 (fun W => W.cell? ⟨g1, 0, none⟩ = some (.string w0)) (first | exact c0 | exact ((show Below w'.heap.size w' _ by repeat (first | exact Below.refl _ _ | apply below_alloc | apply pw_below_drewN | apply below_drew1)).cell (p := ⟨g1, 0, none⟩) hlt).trans c0) (first | ((with_reducible refine (HIX.out _ ?ht).mono ?_); (case ht => exact HT.out.below (by repeat (first | exact HB.out | apply below_alloc | apply pw_below_drewN | apply below_drew1))); rintro e w' ⟨rfl, rfl⟩))
  all_goals (go_wp2_with fail; go_meet; exact ⟨_, rfl, by (with_reducible repeat (first | refine blk_drewN ?_ _ | refine blk_drew ?_)); exact blk_new _ _, Nat.le_refl _, by repeat (first | exact Below.refl _ _ | apply below_alloc | apply pw_below_drewN | apply below_drew1)⟩)
 case rest =>
  obtain ⟨g2, rfl, hg2, hl2, hb2⟩ := hcut
  have lt1 : g1 < w'.heap.size := World.block_lt_of_cell? w' _ c0
  have lt0 : g0 < w'.heap.size := blk_lt BR.out
  have BI := Aside0.mk hg2
  have N1 := Aside0.mk (show g2 ≠ g0 by omega)
  have N2 := Aside0.mk (show g2 ≠ g1 by omega)
  have GE := Aside0.mk (show w.heap.size ≤ g2 by have := HB.out.size; omega)
  have n1 := Aside0.mk (blk_below BR.out hb2)
  have n2 := Aside0.mk (blk_below BW.out hb2)
  have n3 := Aside0.mk (below_step HB.out hb2)
  clear BR BW HB c0 hdot lt0 lt1 hg2 hl2 hb2
  have BR := n1; have BW := n2; have HB := n3
  clear n1 n2 n3
  have q0 : wc.cell? ⟨g2, 0, none⟩ = some (.int .i64 op) := (blk_cell BI.out 0).trans rfl
  have i0 : ∀ w, (Instr.index 102 (.agg #[.pointer (some ⟨g2, 1, none⟩), .pointer (some ⟨g2, 2, none⟩), .pointer (some ⟨g2, 3, none⟩)]) (.int .i64 0)).run Tryz.prog w = .ok (.pointer (some ⟨g2, 1, none⟩)) w := fun _ => by kernel_rfl
  have i1 : ∀ w, (Instr.index 102 (.agg #[.pointer (some ⟨g2, 1, none⟩), .pointer (some ⟨g2, 2, none⟩), .pointer (some ⟨g2, 3, none⟩)]) (.int .i64 1)).run Tryz.prog w = .ok (.pointer (some ⟨g2, 2, none⟩)) w := fun _ => by kernel_rfl
  have i2 : ∀ w, (Instr.index 102 (.agg #[.pointer (some ⟨g2, 1, none⟩), .pointer (some ⟨g2, 2, none⟩), .pointer (some ⟨g2, 3, none⟩)]) (.int .i64 2)).run Tryz.prog w = .ok (.pointer (some ⟨g2, 3, none⟩)) w := fun _ => by kernel_rfl
  go_upto_region 14 with ((with_reducible refine (HFC.out _).mono ?_); rintro e w' ⟨rfl, nd, rfl⟩)
  go_cut [3] from 16 (fun v3 wd => ∃ off, v3 = .slice (some ⟨g1, off, none⟩) wt.length wt.length ∧ Aside0 (impl_readLine.At (w0 :: wt) off wt) ∧ wd = wc.drewN nd)
  case first =>
   go_wp2
   all_goals go_meet
   case rel => rename_i h; subst h; exact ⟨_, rfl, ⟨impl_readLine.At.nil _ _⟩, rfl⟩
   case rel => exact ⟨1, rfl, ⟨impl_readLine.At.tail _ _⟩, rfl⟩
  obtain ⟨off0, rfl, HD0, rfl⟩ := hcut
  clear q0
  go_wp2
  go_loopw [3, 76] (fun s i wr => ∃ (n off : Nat) (va vb vc : Int) (wk : List ByteArray), n ≤ 3 ∧ i = .int .i64 n ∧ s = .slice (some ⟨g1, off, none⟩) wk.length wk.length ∧ Aside0 (impl_readLine.At (w0 :: wt) off wk) ∧ Aside0 (impl_readLine.rd k op (-1) (3 - n) va vb vc wk = some (r1, r2, r3, r4, r5, r6, r7, r8)) ∧ Aside0 (wr.heap[g0]? = some (.cells #[.int .i64 0, .int .i64 0, .int .i64 0, .int .i64 0, .int .i64 0, .int .i64 0, .int .u32 0, .string ⟨#[]⟩] 64 (0, 0))) ∧ Aside0 (wr.heap[g1]? = some (.cells ((w0 :: wt).map Value.string).toArray 9 (0, 0))) ∧ Aside0 (wr.heap[g2]? = some (.cells #[.int .i64 op, .int .i64 va, .int .i64 vb, .int .i64 vc, .int .i64 0] 48 (0, 0))) ∧ Aside0 (Below w.heap.size w wr)) (fun _ i _ => 3 - (intOf i).toNat)
  case atStart => exact ⟨0, off0, 0, 0, 0, wt, by omega, rfl, rfl, HD0, H, ⟨blk_drewN BR.out _⟩, ⟨blk_drewN BW.out _⟩, ⟨blk_drewN BI.out _⟩, ⟨pw_below_drewN HB.out _⟩⟩
  case round =>
   clear BR BW BI HB H
   obtain ⟨n, off, va, vb, vc, wk, hn, rfl, rfl, HD, H, BR, BW, BI, HB⟩ := hrel
   rcases (show n = 0 ∨ n = 1 ∨ n = 2 ∨ n = 3 by omega) with rfl | rfl | rfl | rfl
   · go_wp2
     go_roundw
     case rel => exact ⟨1, off, va, vb, vc, wk, by omega, rfl, rfl, HD, ⟨(impl_readLine.rd_skip k op (-1) 2 va vb vc wk (by decide)).symm.trans H.out⟩, BR, BW, BI, HB⟩
     case measure => simp [intOf]
   · go_wp2
     go_roundw
     case rel => exact ⟨2, off, va, vb, vc, wk, by omega, rfl, rfl, HD, ⟨(impl_readLine.rd_skip k op (-1) 1 va vb vc wk (by decide)).symm.trans H.out⟩, BR, BW, BI, HB⟩
     case measure => simp [intOf]
   · go_wp2
     go_roundw
     case rel => exact ⟨3, off, va, vb, vc, wk, by omega, rfl, rfl, HD, ⟨(impl_readLine.rd_skip k op (-1) 0 va vb vc wk (by decide)).symm.trans H.out⟩, BR, BW, BI, HB⟩
     case measure => simp [intOf]
   · have H1 : impl_readLine.fin k op (-1) va vb vc wk = some (r1, r2, r3, r4, r5, r6, r7, r8) := H.out
     rw [show impl_readLine.fin k op (-1) va vb vc wk = some impl_readLine.nil_ from if_pos (by decide)] at H1
     simp only [impl_readLine.nil_, Option.some.injEq, Prod.mk.injEq] at H1; obtain ⟨rfl, rfl, rfl, rfl, rfl, rfl, rfl, rfl⟩ := H1
     have z0 : wr.cell? ⟨g0, 0, none⟩ = some (.int .i64 0) := (blk_cell BR.out 0).trans rfl
     have y0 := blk_frozen BR.out 0
     have z1 : wr.cell? ⟨g0, 1, none⟩ = some (.int .i64 0) := (blk_cell BR.out 1).trans rfl
     have y1 := blk_frozen BR.out 1
     have z2 : wr.cell? ⟨g0, 2, none⟩ = some (.int .i64 0) := (blk_cell BR.out 2).trans rfl
     have y2 := blk_frozen BR.out 2
     have z3 : wr.cell? ⟨g0, 3, none⟩ = some (.int .i64 0) := (blk_cell BR.out 3).trans rfl
     have y3 := blk_frozen BR.out 3
     have z4 : wr.cell? ⟨g0, 4, none⟩ = some (.int .i64 0) := (blk_cell BR.out 4).trans rfl
     have y4 := blk_frozen BR.out 4
     have z5 : wr.cell? ⟨g0, 5, none⟩ = some (.int .i64 0) := (blk_cell BR.out 5).trans rfl
     have y5 := blk_frozen BR.out 5
     have z6 : wr.cell? ⟨g0, 6, none⟩ = some (.int .u32 0) := (blk_cell BR.out 6).trans rfl
     have y6 := blk_frozen BR.out 6
     have z7 : wr.cell? ⟨g0, 7, none⟩ = some (.string ⟨#[]⟩) := (blk_cell BR.out 7).trans rfl
     have y7 := blk_frozen BR.out 7
     go_wp2
     refine bodyPost_ret (v := .agg #[.int .i64 0, .int .i64 0, .int .i64 0, .int .i64 0, .int .i64 0, .int .i64 0, .int .u32 0, .string ⟨#[]⟩]) ?hr ?he ?hf
     case he => rfl
     case hf => exact ⟨rfl, by (with_reducible repeat (first | exact HB.out | exact hb_ | refine below_set ?_ GZ.out | refine below_set ?_ GE.out | apply below_alloc | apply pw_below_drewN | apply below_drew1))⟩
     case hr =>
      dsimp only
      refine results_cell_row (p := 2) (ty := 64) ?h _ _ g0 64 _ (0, 0) _ ?hp ?hg hu33 ?hd ?hi
      case h => rfl
      case hp => rfl
      case hg => (with_reducible repeat (first | refine blk_drewN ?_ _ | refine blk_drew ?_)); refine blk_put (cs := #[.int .i64 0, .int .i64 0, .int .i64 0, .int .i64 0, .int .i64 0, .int .i64 0, .int .u32 0, .string ⟨#[]⟩]) ?_ 7 _ rfl; refine blk_put (cs := #[.int .i64 0, .int .i64 0, .int .i64 0, .int .i64 0, .int .i64 0, .int .i64 0, .int .u32 0, .string ⟨#[]⟩]) ?_ 6 _ rfl; refine blk_put (cs := #[.int .i64 0, .int .i64 0, .int .i64 0, .int .i64 0, .int .i64 0, .int .i64 0, .int .u32 0, .string ⟨#[]⟩]) ?_ 5 _ rfl; refine blk_put (cs := #[.int .i64 0, .int .i64 0, .int .i64 0, .int .i64 0, .int .i64 0, .int .i64 0, .int .u32 0, .string ⟨#[]⟩]) ?_ 4 _ rfl; refine blk_put (cs := #[.int .i64 0, .int .i64 0, .int .i64 0, .int .i64 0, .int .i64 0, .int .i64 0, .int .u32 0, .string ⟨#[]⟩]) ?_ 3 _ rfl; refine blk_put (cs := #[.int .i64 0, .int .i64 0, .int .i64 0, .int .i64 0, .int .i64 0, .int .i64 0, .int .u32 0, .string ⟨#[]⟩]) ?_ 2 _ rfl; refine blk_put (cs := #[.int .i64 0, .int .i64 0, .int .i64 0, .int .i64 0, .int .i64 0, .int .i64 0, .int .u32 0, .string ⟨#[]⟩]) ?_ 1 _ rfl; refine blk_put (cs := #[.int .i64 0, .int .i64 0, .int .i64 0, .int .i64 0, .int .i64 0, .int .i64 0, .int .u32 0, .string ⟨#[]⟩]) ?_ 0 _ rfl; exact BR.out
      case hd => rfl
      case hi => kernel_rfl
set_option maxHeartbeats 16000000 in
set_option maxRecDepth 100000 in
theorem impl_readLine.instG (F : Int) (HN : Hid (0 ≤ F)) (e0 e1 e2 e3 : Bool) (B0 : (Go.bits .and .i64 F 1 == 0) = e0) (B1 : (Go.bits .and .i64 (F / 2) 1 == 0) = e1) (B2 : (Go.bits .and .i64 (F / 4) 1 == 0) = e2) (B3 : (Go.bits .and .i64 F 8 == 0) = e3) (C0 : Hid (F / 2 ^ (2 - 2) % 2 = 0 ↔ e0 = true)) (C1 : Hid (F / 2 ^ (2 - 1) % 2 = 0 ↔ e1 = true)) (C2 : Hid (F / 2 ^ (2 - 0) % 2 = 0 ↔ e2 = true)) (C3 : Hid (F / 8 % 2 = 0 ↔ e3 = true)) (k : Nat) (a0 : ByteArray) (hs : a0.size ≤ 80) (w0 : ByteArray) (wt : List ByteArray) (hws : impl_readLine.ws a0 = w0 :: wt) (sb : Bool) (hsb : impl_readLine.sx w0 = sb) (HNL : Hid (impl_readLine.NoLabel k w0 wt sb)) (r1 : Int) (r2 : Int) (r3 : Int) (r4 : Int) (r5 : Int) (r6 : Int) (r7 : Int) (r8 : ByteArray) (w : World) (HT : Aside0 (Tab.TabsODEM w)) (op : Int) (hop : Lib.idxOfS ((List.range 33).map Tab.nm) w0 = op) (hdot : (w0.toList == ([46, 119, 111, 114, 100] : List UInt8)) = false) (HF : Hid (impl_formOf.f k op = some (F)))
 (H : Aside0 (impl_readLine.rd k op (F) 3 0 0 0 wt = some (r1, r2, r3, r4, r5, r6, r7, r8))) :
 Calls Tryz.prog 32 #[.string a0] w fun e w' => e = .returned (.agg #[.int .i64 r1, .int .i64 r2, .int .i64 r3, .int .i64 r4, .int .i64 r5, .int .i64 r6, .int .u32 r7, .string r8]) ∧ Below w.heap.size w w' := by
 have hu33 := Tryz.underlying64
 have hu25 := Tryz.underlying48
 have HSP := Lib.hid (impl_readLine.split a0 hs)
 have hmem := impl_readLine.words_size a0 hs
 rw [hws] at HSP hmem
 have HCU := Lib.hid (impl_readLine.cut w0 (hmem w0 (by simp)))
 rw [hsb] at HCU
 have HIX := Lib.hid (fun W (ht : Tab.TabsODEM W) => impl_readLine.index w0 W ht)
 rw [hop] at HIX
 have HFC := Lib.hid (fun W => impl_formOf.calls k op (F) W HF.out)
 clear hmem hs hws hop hsb
 go_enter Tryz.func32, Tryz.ntmps32
 have HB0 := Aside0.mk (Below.refl w.heap.size w)
 go_wp2_with (first | ((with_reducible refine gate_dst (N := 2) rfl ?_); refine box_event ?hg (N := 2) ?hd (cs := #[.int .i64 0, .int .i64 0, .int .i64 0, .int .i64 0, .int .i64 0, .int .i64 0, .int .u32 0, .string ⟨#[]⟩]) (t := 64) ?hr ?_; (case hd => rfl); (case hg => rfl); (case hr => first | (go_simp; done) | (go_simp; rfl)); intro g0 hg w0_ hbox hb; revert hbox hb hg))
 intro hg0 hbox hb0
 have GZ := Aside0.mk (show w.heap.size ≤ g0 by omega)
 have HB1 := Aside0.mk (below_step HB0.out hb0)
 have BR0 := Aside0.mk hbox
 clear hg0 hbox hb0 HB0
 go_wp2_with fail
 refine (HSP.out _ (HT.out.below HB1.out)).mono ?_
 rintro e w1 ⟨g1, rfl, hg1, hl1, hb1⟩
 have lt0_ : g0 < w0_.heap.size := blk_lt BR0.out
 have BR := Aside0.mk (blk_below BR0.out hb1)
 have BW := Aside0.mk hg1
 have HB := Aside0.mk (below_step HB1.out hb1)
 have NE := Aside0.mk (show g1 ≠ g0 by omega)
 clear BR0 HB1 lt0_
 have c0 : w1.cell? ⟨g1, 0, none⟩ = some (.string w0) := (blk_cell BW.out 0).trans rfl
 clear hg1 hl1 hb1
 go_upto_region 3 with (first | ((with_reducible refine (HCU.out _).mono ?_); rintro e w' ⟨rfl, rfl⟩))
 go_cut [34] from 16 (fun v34 wd => v34 = .bool false ∧ Aside0 (wd.heap[g0]? = some (.cells #[.int .i64 0, .int .i64 0, .int .i64 0, .int .i64 0, .int .i64 0, .int .i64 0, .int .u32 0, .string ⟨#[]⟩] 64 (0, 0))) ∧ Aside0 (wd.heap[g1]? = some (.cells ((w0 :: wt).map Value.string).toArray 9 (0, 0))) ∧ Aside0 (Below w.heap.size w wd))
 case first =>
  rcases HNL.out with rfl | ⟨rfl, hne⟩ | ⟨rfl, rfl, hl⟩
  · go_wp2
    go_meet
    case rel => exact ⟨rfl, BR, BW, HB⟩
  · have l1 : (((wt.length + 1 : Nat) : Int) == 1) = false := by
     have := List.length_pos_iff.2 hne
     simp; omega
    have l2 : ((wt.length : Int) + 1 == 1) = false := by
     have := List.length_pos_iff.2 hne
     simp; omega
    go_wp2
    go_meet
    case rel => exact ⟨rfl, BR, BW, HB⟩
  · have HLB := Lib.hid (fun W => impl_isLabel.calls k (impl_readLine.nm w0) false W hl)
    clear hl
    go_wp2_with ((with_reducible refine (HLB.out _).mono ?_); rintro e w' ⟨rfl, nd, rfl⟩)
    go_meet
    case rel => exact ⟨rfl, ⟨blk_drewN BR.out _⟩, ⟨blk_drewN BW.out _⟩, ⟨pw_below_drewN HB.out _⟩⟩
 clear BR BW HB c0
 obtain ⟨rfl, BR, BW, HB⟩ := hcut
 have c0 : wc.cell? ⟨g1, 0, none⟩ = some (.string w0) := (blk_cell BW.out 0).trans rfl
 clear HNL
 rename World => w'
 go_wp2
 go_cut [8] from 16 (fun v8 wc => ∃ g2, v8 = .pointer (some ⟨g2, 0, none⟩) ∧ wc.heap[g2]? = some (.cells #[.int .i64 op, .int .i64 0, .int .i64 0, .int .i64 0, .int .i64 0] 48 (0, 0)) ∧ w'.heap.size ≤ g2 ∧ Below w'.heap.size w' wc)
 case first =>
  have hlt : g1 < w'.heap.size := World.block_lt_of_cell? w' _ c0
  go_region_held3 (fun W => W.cell? ⟨g1, 0, none⟩ = some (.string w0)) (first | exact c0 | exact ((show Below w'.heap.size w' _ by repeat (first | exact Below.refl _ _ | apply below_alloc | apply pw_below_drewN | apply below_drew1)).cell (p := ⟨g1, 0, none⟩) hlt).trans c0) (first | ((with_reducible refine (HIX.out _ ?ht).mono ?_); (case ht => exact HT.out.below (by repeat (first | exact HB.out | apply below_alloc | apply pw_below_drewN | apply below_drew1))); rintro e w' ⟨rfl, rfl⟩))
  all_goals (go_wp2_with fail; go_meet; exact ⟨_, rfl, by (with_reducible repeat (first | refine blk_drewN ?_ _ | refine blk_drew ?_)); exact blk_new _ _, Nat.le_refl _, by repeat (first | exact Below.refl _ _ | apply below_alloc | apply pw_below_drewN | apply below_drew1)⟩)
 case rest =>
  obtain ⟨g2, rfl, hg2, hl2, hb2⟩ := hcut
  have lt1 : g1 < w'.heap.size := World.block_lt_of_cell? w' _ c0
  have lt0 : g0 < w'.heap.size := blk_lt BR.out
  have BI := Aside0.mk hg2
  have N1 := Aside0.mk (show g2 ≠ g0 by omega)
  have N2 := Aside0.mk (show g2 ≠ g1 by omega)
  have GE := Aside0.mk (show w.heap.size ≤ g2 by have := HB.out.size; omega)
  have n1 := Aside0.mk (blk_below BR.out hb2)
  have n2 := Aside0.mk (blk_below BW.out hb2)
  have n3 := Aside0.mk (below_step HB.out hb2)
  clear BR BW HB c0 hdot lt0 lt1 hg2 hl2 hb2
  have BR := n1; have BW := n2; have HB := n3
  clear n1 n2 n3
  have q0 : wc.cell? ⟨g2, 0, none⟩ = some (.int .i64 op) := (blk_cell BI.out 0).trans rfl
  have hF1 : decide (F < 0) = false := decide_eq_false (Int.not_lt.2 HN.out)
  have i0 : ∀ w, (Instr.index 102 (.agg #[.pointer (some ⟨g2, 1, none⟩), .pointer (some ⟨g2, 2, none⟩), .pointer (some ⟨g2, 3, none⟩)]) (.int .i64 0)).run Tryz.prog w = .ok (.pointer (some ⟨g2, 1, none⟩)) w := fun _ => by kernel_rfl
  have i1 : ∀ w, (Instr.index 102 (.agg #[.pointer (some ⟨g2, 1, none⟩), .pointer (some ⟨g2, 2, none⟩), .pointer (some ⟨g2, 3, none⟩)]) (.int .i64 1)).run Tryz.prog w = .ok (.pointer (some ⟨g2, 2, none⟩)) w := fun _ => by kernel_rfl
  have i2 : ∀ w, (Instr.index 102 (.agg #[.pointer (some ⟨g2, 1, none⟩), .pointer (some ⟨g2, 2, none⟩), .pointer (some ⟨g2, 3, none⟩)]) (.int .i64 2)).run Tryz.prog w = .ok (.pointer (some ⟨g2, 3, none⟩)) w := fun _ => by kernel_rfl
  go_upto_region 14 with ((with_reducible refine (HFC.out _).mono ?_); rintro e w' ⟨rfl, nd, rfl⟩)
  go_cut [3] from 16 (fun v3 wd => ∃ off, v3 = .slice (some ⟨g1, off, none⟩) wt.length wt.length ∧ Aside0 (impl_readLine.At (w0 :: wt) off wt) ∧ wd = wc.drewN nd)
  case first =>
   go_wp2
   all_goals go_meet
   case rel => rename_i h; subst h; exact ⟨_, rfl, ⟨impl_readLine.At.nil _ _⟩, rfl⟩
   case rel => exact ⟨1, rfl, ⟨impl_readLine.At.tail _ _⟩, rfl⟩
  obtain ⟨off0, rfl, HD0, rfl⟩ := hcut
  clear q0
  go_wp2
  go_loopw [3, 76] (fun s i wr => ∃ (n off : Nat) (va vb vc : Int) (wk : List ByteArray), n ≤ 3 ∧ i = .int .i64 n ∧ s = .slice (some ⟨g1, off, none⟩) wk.length wk.length ∧ Aside0 (impl_readLine.At (w0 :: wt) off wk) ∧ Aside0 (impl_readLine.rd k op (F) (3 - n) va vb vc wk = some (r1, r2, r3, r4, r5, r6, r7, r8)) ∧ Aside0 (wr.heap[g0]? = some (.cells #[.int .i64 0, .int .i64 0, .int .i64 0, .int .i64 0, .int .i64 0, .int .i64 0, .int .u32 0, .string ⟨#[]⟩] 64 (0, 0))) ∧ Aside0 (wr.heap[g1]? = some (.cells ((w0 :: wt).map Value.string).toArray 9 (0, 0))) ∧ Aside0 (wr.heap[g2]? = some (.cells #[.int .i64 op, .int .i64 va, .int .i64 vb, .int .i64 vc, .int .i64 0] 48 (0, 0))) ∧ Aside0 (Below w.heap.size w wr)) (fun _ i _ => 3 - (intOf i).toNat)
  case atStart => exact ⟨0, off0, 0, 0, 0, wt, by omega, rfl, rfl, HD0, H, ⟨blk_drewN BR.out _⟩, ⟨blk_drewN BW.out _⟩, ⟨blk_drewN BI.out _⟩, ⟨pw_below_drewN HB.out _⟩⟩
  case round =>
   clear BR BW BI HB H
   obtain ⟨n, off, va, vb, vc, wk, hn, rfl, rfl, HD, H, BR, BW, BI, HB⟩ := hrel
   rcases (show n = 0 ∨ n = 1 ∨ n = 2 ∨ n = 3 by omega) with rfl | rfl | rfl | rfl
   · cases e0 with
     | true =>
      go_wp2
      go_roundw
      case rel => exact ⟨1, off, va, vb, vc, wk, by omega, rfl, rfl, HD, ⟨(impl_readLine.rd_skip k op F 2 va vb vc wk (.inr (C0.out.2 rfl))).symm.trans H.out⟩, BR, BW, BI, HB⟩
      case measure => simp [intOf]
     | false =>
      have H1 := (impl_readLine.rd_read k op (F) 2 va vb vc wk (Int.not_lt.2 HN.out) (fun h => Bool.noConfusion (C0.out.1 h))).symm.trans H.out
      cases wk with
      | nil =>
       simp only [impl_readLine.nil_, Option.some.injEq, Prod.mk.injEq] at H1; obtain ⟨rfl, rfl, rfl, rfl, rfl, rfl, rfl, rfl⟩ := H1
       have z0 : wr.cell? ⟨g0, 0, none⟩ = some (.int .i64 0) := (blk_cell BR.out 0).trans rfl
       have y0 := blk_frozen BR.out 0
       have z1 : wr.cell? ⟨g0, 1, none⟩ = some (.int .i64 0) := (blk_cell BR.out 1).trans rfl
       have y1 := blk_frozen BR.out 1
       have z2 : wr.cell? ⟨g0, 2, none⟩ = some (.int .i64 0) := (blk_cell BR.out 2).trans rfl
       have y2 := blk_frozen BR.out 2
       have z3 : wr.cell? ⟨g0, 3, none⟩ = some (.int .i64 0) := (blk_cell BR.out 3).trans rfl
       have y3 := blk_frozen BR.out 3
       have z4 : wr.cell? ⟨g0, 4, none⟩ = some (.int .i64 0) := (blk_cell BR.out 4).trans rfl
       have y4 := blk_frozen BR.out 4
       have z5 : wr.cell? ⟨g0, 5, none⟩ = some (.int .i64 0) := (blk_cell BR.out 5).trans rfl
       have y5 := blk_frozen BR.out 5
       have z6 : wr.cell? ⟨g0, 6, none⟩ = some (.int .u32 0) := (blk_cell BR.out 6).trans rfl
       have y6 := blk_frozen BR.out 6
       have z7 : wr.cell? ⟨g0, 7, none⟩ = some (.string ⟨#[]⟩) := (blk_cell BR.out 7).trans rfl
       have y7 := blk_frozen BR.out 7
       go_wp2
       refine bodyPost_ret (v := .agg #[.int .i64 0, .int .i64 0, .int .i64 0, .int .i64 0, .int .i64 0, .int .i64 0, .int .u32 0, .string ⟨#[]⟩]) ?hr ?he ?hf
       case he => rfl
       case hf => exact ⟨rfl, by (with_reducible repeat (first | exact HB.out | exact hb_ | refine below_set ?_ GZ.out | refine below_set ?_ GE.out | apply below_alloc | apply pw_below_drewN | apply below_drew1))⟩
       case hr =>
        dsimp only
        refine results_cell_row (p := 2) (ty := 64) ?h _ _ g0 64 _ (0, 0) _ ?hp ?hg hu33 ?hd ?hi
        case h => rfl
        case hp => rfl
        case hg => (with_reducible repeat (first | refine blk_drewN ?_ _ | refine blk_drew ?_)); refine blk_put (cs := #[.int .i64 0, .int .i64 0, .int .i64 0, .int .i64 0, .int .i64 0, .int .i64 0, .int .u32 0, .string ⟨#[]⟩]) ?_ 7 _ rfl; refine blk_put (cs := #[.int .i64 0, .int .i64 0, .int .i64 0, .int .i64 0, .int .i64 0, .int .i64 0, .int .u32 0, .string ⟨#[]⟩]) ?_ 6 _ rfl; refine blk_put (cs := #[.int .i64 0, .int .i64 0, .int .i64 0, .int .i64 0, .int .i64 0, .int .i64 0, .int .u32 0, .string ⟨#[]⟩]) ?_ 5 _ rfl; refine blk_put (cs := #[.int .i64 0, .int .i64 0, .int .i64 0, .int .i64 0, .int .i64 0, .int .i64 0, .int .u32 0, .string ⟨#[]⟩]) ?_ 4 _ rfl; refine blk_put (cs := #[.int .i64 0, .int .i64 0, .int .i64 0, .int .i64 0, .int .i64 0, .int .i64 0, .int .u32 0, .string ⟨#[]⟩]) ?_ 3 _ rfl; refine blk_put (cs := #[.int .i64 0, .int .i64 0, .int .i64 0, .int .i64 0, .int .i64 0, .int .i64 0, .int .u32 0, .string ⟨#[]⟩]) ?_ 2 _ rfl; refine blk_put (cs := #[.int .i64 0, .int .i64 0, .int .i64 0, .int .i64 0, .int .i64 0, .int .i64 0, .int .u32 0, .string ⟨#[]⟩]) ?_ 1 _ rfl; refine blk_put (cs := #[.int .i64 0, .int .i64 0, .int .i64 0, .int .i64 0, .int .i64 0, .int .i64 0, .int .u32 0, .string ⟨#[]⟩]) ?_ 0 _ rfl; exact BR.out
        case hd => rfl
        case hi => kernel_rfl
      | cons x t =>
       obtain ⟨⟨gn, gb⟩, hg, H1⟩ := Option.bind_eq_some_iff.1 H1
       have HX := Aside0.mk (HD.out 0 x rfl)
       have HR := Lib.hid (fun W (ht : Tab.TabsODEM W) => impl_register.calls x gn gb W ht hg)
       have HC := Aside0.mk H1
       have cx : wr.cell? ⟨g1, off, none⟩ = some (.string x) := (blk_cell BW.out off).trans HX.out
       have lt : ((t.length : Int) + 1 == 0) = false := by simp; omega
       clear hg H1 H HX
       cases gb with
       | false =>
        have H1 : some impl_readLine.nil_ = some (r1, r2, r3, r4, r5, r6, r7, r8) := HC.out
        simp only [impl_readLine.nil_, Option.some.injEq, Prod.mk.injEq] at H1; obtain ⟨rfl, rfl, rfl, rfl, rfl, rfl, rfl, rfl⟩ := H1
        go_wp2_with (go_at_call 61; refine (HR.out _ (HT.out.below HB.out)).mono ?_; rintro e w2 ⟨rfl, hb_⟩; have z0 : w2.cell? ⟨g0, 0, none⟩ = some (.int .i64 0) := (blk_cell (blk_below BR.out hb_) 0).trans rfl; have y0 := blk_frozen (blk_below BR.out hb_) 0; have z1 : w2.cell? ⟨g0, 1, none⟩ = some (.int .i64 0) := (blk_cell (blk_below BR.out hb_) 1).trans rfl; have y1 := blk_frozen (blk_below BR.out hb_) 1; have z2 : w2.cell? ⟨g0, 2, none⟩ = some (.int .i64 0) := (blk_cell (blk_below BR.out hb_) 2).trans rfl; have y2 := blk_frozen (blk_below BR.out hb_) 2; have z3 : w2.cell? ⟨g0, 3, none⟩ = some (.int .i64 0) := (blk_cell (blk_below BR.out hb_) 3).trans rfl; have y3 := blk_frozen (blk_below BR.out hb_) 3; have z4 : w2.cell? ⟨g0, 4, none⟩ = some (.int .i64 0) := (blk_cell (blk_below BR.out hb_) 4).trans rfl; have y4 := blk_frozen (blk_below BR.out hb_) 4; have z5 : w2.cell? ⟨g0, 5, none⟩ = some (.int .i64 0) := (blk_cell (blk_below BR.out hb_) 5).trans rfl; have y5 := blk_frozen (blk_below BR.out hb_) 5; have z6 : w2.cell? ⟨g0, 6, none⟩ = some (.int .u32 0) := (blk_cell (blk_below BR.out hb_) 6).trans rfl; have y6 := blk_frozen (blk_below BR.out hb_) 6; have z7 : w2.cell? ⟨g0, 7, none⟩ = some (.string ⟨#[]⟩) := (blk_cell (blk_below BR.out hb_) 7).trans rfl; have y7 := blk_frozen (blk_below BR.out hb_) 7)
        refine bodyPost_ret (v := .agg #[.int .i64 0, .int .i64 0, .int .i64 0, .int .i64 0, .int .i64 0, .int .i64 0, .int .u32 0, .string ⟨#[]⟩]) ?hr ?he ?hf
        case he => rfl
        case hf => exact ⟨rfl, by (with_reducible repeat (first | exact below_step HB.out hb_ | refine below_set ?_ GZ.out))⟩
        case hr =>
         dsimp only
         refine results_cell_row (p := 2) (ty := 64) ?h _ _ g0 64 _ (0, 0) _ ?hp ?hg hu33 ?hd ?hi
         case h => rfl
         case hp => rfl
         case hg => (with_reducible repeat (first | refine blk_drewN ?_ _ | refine blk_drew ?_)); refine blk_put (cs := #[.int .i64 0, .int .i64 0, .int .i64 0, .int .i64 0, .int .i64 0, .int .i64 0, .int .u32 0, .string ⟨#[]⟩]) ?_ 7 _ rfl; refine blk_put (cs := #[.int .i64 0, .int .i64 0, .int .i64 0, .int .i64 0, .int .i64 0, .int .i64 0, .int .u32 0, .string ⟨#[]⟩]) ?_ 6 _ rfl; refine blk_put (cs := #[.int .i64 0, .int .i64 0, .int .i64 0, .int .i64 0, .int .i64 0, .int .i64 0, .int .u32 0, .string ⟨#[]⟩]) ?_ 5 _ rfl; refine blk_put (cs := #[.int .i64 0, .int .i64 0, .int .i64 0, .int .i64 0, .int .i64 0, .int .i64 0, .int .u32 0, .string ⟨#[]⟩]) ?_ 4 _ rfl; refine blk_put (cs := #[.int .i64 0, .int .i64 0, .int .i64 0, .int .i64 0, .int .i64 0, .int .i64 0, .int .u32 0, .string ⟨#[]⟩]) ?_ 3 _ rfl; refine blk_put (cs := #[.int .i64 0, .int .i64 0, .int .i64 0, .int .i64 0, .int .i64 0, .int .i64 0, .int .u32 0, .string ⟨#[]⟩]) ?_ 2 _ rfl; refine blk_put (cs := #[.int .i64 0, .int .i64 0, .int .i64 0, .int .i64 0, .int .i64 0, .int .i64 0, .int .u32 0, .string ⟨#[]⟩]) ?_ 1 _ rfl; refine blk_put (cs := #[.int .i64 0, .int .i64 0, .int .i64 0, .int .i64 0, .int .i64 0, .int .i64 0, .int .u32 0, .string ⟨#[]⟩]) ?_ 0 _ rfl; exact blk_below BR.out hb_
         case hd => rfl
         case hi => kernel_rfl
       | true =>
        replace HC : Aside0 (impl_readLine.rd k op (F) 2 gn vb vc t = some (r1, r2, r3, r4, r5, r6, r7, r8)) := HC
        go_wp2_with (go_at_call 61; refine (HR.out _ (HT.out.below HB.out)).mono ?_; rintro e w2 ⟨rfl, hb_⟩; have qx : w2.cell? ⟨g2, 1, none⟩ = some (.int .i64 va) := (blk_cell (blk_below BI.out hb_) 1).trans rfl; have qf := blk_frozen (blk_below BI.out hb_) 1)
        all_goals go_roundw
        case rel => exact ⟨1, if t = [] then off else off + 1, gn, vb, vc, t, by omega, rfl, by by_cases ht_ : t = [] <;> simp [ht_], ⟨impl_readLine.At.step HD.out⟩, HC, ⟨blk_far (blk_below BR.out hb_) (fun h => N1.out h.symm) _⟩, ⟨blk_far (blk_below BW.out hb_) (fun h => N2.out h.symm) _⟩, ⟨blk_put (blk_below BI.out hb_) 1 _ rfl⟩, ⟨below_set (below_step HB.out hb_) GE.out⟩⟩
        all_goals simp [intOf]
   · cases e1 with
     | true =>
      go_wp2
      go_roundw
      case rel => exact ⟨2, off, va, vb, vc, wk, by omega, rfl, rfl, HD, ⟨(impl_readLine.rd_skip k op F 1 va vb vc wk (.inr (C1.out.2 rfl))).symm.trans H.out⟩, BR, BW, BI, HB⟩
      case measure => simp [intOf]
     | false =>
      have H1 := (impl_readLine.rd_read k op (F) 1 va vb vc wk (Int.not_lt.2 HN.out) (fun h => Bool.noConfusion (C1.out.1 h))).symm.trans H.out
      cases wk with
      | nil =>
       simp only [impl_readLine.nil_, Option.some.injEq, Prod.mk.injEq] at H1; obtain ⟨rfl, rfl, rfl, rfl, rfl, rfl, rfl, rfl⟩ := H1
       have z0 : wr.cell? ⟨g0, 0, none⟩ = some (.int .i64 0) := (blk_cell BR.out 0).trans rfl
       have y0 := blk_frozen BR.out 0
       have z1 : wr.cell? ⟨g0, 1, none⟩ = some (.int .i64 0) := (blk_cell BR.out 1).trans rfl
       have y1 := blk_frozen BR.out 1
       have z2 : wr.cell? ⟨g0, 2, none⟩ = some (.int .i64 0) := (blk_cell BR.out 2).trans rfl
       have y2 := blk_frozen BR.out 2
       have z3 : wr.cell? ⟨g0, 3, none⟩ = some (.int .i64 0) := (blk_cell BR.out 3).trans rfl
       have y3 := blk_frozen BR.out 3
       have z4 : wr.cell? ⟨g0, 4, none⟩ = some (.int .i64 0) := (blk_cell BR.out 4).trans rfl
       have y4 := blk_frozen BR.out 4
       have z5 : wr.cell? ⟨g0, 5, none⟩ = some (.int .i64 0) := (blk_cell BR.out 5).trans rfl
       have y5 := blk_frozen BR.out 5
       have z6 : wr.cell? ⟨g0, 6, none⟩ = some (.int .u32 0) := (blk_cell BR.out 6).trans rfl
       have y6 := blk_frozen BR.out 6
       have z7 : wr.cell? ⟨g0, 7, none⟩ = some (.string ⟨#[]⟩) := (blk_cell BR.out 7).trans rfl
       have y7 := blk_frozen BR.out 7
       go_wp2
       refine bodyPost_ret (v := .agg #[.int .i64 0, .int .i64 0, .int .i64 0, .int .i64 0, .int .i64 0, .int .i64 0, .int .u32 0, .string ⟨#[]⟩]) ?hr ?he ?hf
       case he => rfl
       case hf => exact ⟨rfl, by (with_reducible repeat (first | exact HB.out | exact hb_ | refine below_set ?_ GZ.out | refine below_set ?_ GE.out | apply below_alloc | apply pw_below_drewN | apply below_drew1))⟩
       case hr =>
        dsimp only
        refine results_cell_row (p := 2) (ty := 64) ?h _ _ g0 64 _ (0, 0) _ ?hp ?hg hu33 ?hd ?hi
        case h => rfl
        case hp => rfl
        case hg => (with_reducible repeat (first | refine blk_drewN ?_ _ | refine blk_drew ?_)); refine blk_put (cs := #[.int .i64 0, .int .i64 0, .int .i64 0, .int .i64 0, .int .i64 0, .int .i64 0, .int .u32 0, .string ⟨#[]⟩]) ?_ 7 _ rfl; refine blk_put (cs := #[.int .i64 0, .int .i64 0, .int .i64 0, .int .i64 0, .int .i64 0, .int .i64 0, .int .u32 0, .string ⟨#[]⟩]) ?_ 6 _ rfl; refine blk_put (cs := #[.int .i64 0, .int .i64 0, .int .i64 0, .int .i64 0, .int .i64 0, .int .i64 0, .int .u32 0, .string ⟨#[]⟩]) ?_ 5 _ rfl; refine blk_put (cs := #[.int .i64 0, .int .i64 0, .int .i64 0, .int .i64 0, .int .i64 0, .int .i64 0, .int .u32 0, .string ⟨#[]⟩]) ?_ 4 _ rfl; refine blk_put (cs := #[.int .i64 0, .int .i64 0, .int .i64 0, .int .i64 0, .int .i64 0, .int .i64 0, .int .u32 0, .string ⟨#[]⟩]) ?_ 3 _ rfl; refine blk_put (cs := #[.int .i64 0, .int .i64 0, .int .i64 0, .int .i64 0, .int .i64 0, .int .i64 0, .int .u32 0, .string ⟨#[]⟩]) ?_ 2 _ rfl; refine blk_put (cs := #[.int .i64 0, .int .i64 0, .int .i64 0, .int .i64 0, .int .i64 0, .int .i64 0, .int .u32 0, .string ⟨#[]⟩]) ?_ 1 _ rfl; refine blk_put (cs := #[.int .i64 0, .int .i64 0, .int .i64 0, .int .i64 0, .int .i64 0, .int .i64 0, .int .u32 0, .string ⟨#[]⟩]) ?_ 0 _ rfl; exact BR.out
        case hd => rfl
        case hi => kernel_rfl
      | cons x t =>
       obtain ⟨⟨gn, gb⟩, hg, H1⟩ := Option.bind_eq_some_iff.1 H1
       have HX := Aside0.mk (HD.out 0 x rfl)
       have HR := Lib.hid (fun W (ht : Tab.TabsODEM W) => impl_register.calls x gn gb W ht hg)
       have HC := Aside0.mk H1
       have cx : wr.cell? ⟨g1, off, none⟩ = some (.string x) := (blk_cell BW.out off).trans HX.out
       have lt : ((t.length : Int) + 1 == 0) = false := by simp; omega
       clear hg H1 H HX
       cases gb with
       | false =>
        have H1 : some impl_readLine.nil_ = some (r1, r2, r3, r4, r5, r6, r7, r8) := HC.out
        simp only [impl_readLine.nil_, Option.some.injEq, Prod.mk.injEq] at H1; obtain ⟨rfl, rfl, rfl, rfl, rfl, rfl, rfl, rfl⟩ := H1
        go_wp2_with (go_at_call 61; refine (HR.out _ (HT.out.below HB.out)).mono ?_; rintro e w2 ⟨rfl, hb_⟩; have z0 : w2.cell? ⟨g0, 0, none⟩ = some (.int .i64 0) := (blk_cell (blk_below BR.out hb_) 0).trans rfl; have y0 := blk_frozen (blk_below BR.out hb_) 0; have z1 : w2.cell? ⟨g0, 1, none⟩ = some (.int .i64 0) := (blk_cell (blk_below BR.out hb_) 1).trans rfl; have y1 := blk_frozen (blk_below BR.out hb_) 1; have z2 : w2.cell? ⟨g0, 2, none⟩ = some (.int .i64 0) := (blk_cell (blk_below BR.out hb_) 2).trans rfl; have y2 := blk_frozen (blk_below BR.out hb_) 2; have z3 : w2.cell? ⟨g0, 3, none⟩ = some (.int .i64 0) := (blk_cell (blk_below BR.out hb_) 3).trans rfl; have y3 := blk_frozen (blk_below BR.out hb_) 3; have z4 : w2.cell? ⟨g0, 4, none⟩ = some (.int .i64 0) := (blk_cell (blk_below BR.out hb_) 4).trans rfl; have y4 := blk_frozen (blk_below BR.out hb_) 4; have z5 : w2.cell? ⟨g0, 5, none⟩ = some (.int .i64 0) := (blk_cell (blk_below BR.out hb_) 5).trans rfl; have y5 := blk_frozen (blk_below BR.out hb_) 5; have z6 : w2.cell? ⟨g0, 6, none⟩ = some (.int .u32 0) := (blk_cell (blk_below BR.out hb_) 6).trans rfl; have y6 := blk_frozen (blk_below BR.out hb_) 6; have z7 : w2.cell? ⟨g0, 7, none⟩ = some (.string ⟨#[]⟩) := (blk_cell (blk_below BR.out hb_) 7).trans rfl; have y7 := blk_frozen (blk_below BR.out hb_) 7)
        refine bodyPost_ret (v := .agg #[.int .i64 0, .int .i64 0, .int .i64 0, .int .i64 0, .int .i64 0, .int .i64 0, .int .u32 0, .string ⟨#[]⟩]) ?hr ?he ?hf
        case he => rfl
        case hf => exact ⟨rfl, by (with_reducible repeat (first | exact below_step HB.out hb_ | refine below_set ?_ GZ.out))⟩
        case hr =>
         dsimp only
         refine results_cell_row (p := 2) (ty := 64) ?h _ _ g0 64 _ (0, 0) _ ?hp ?hg hu33 ?hd ?hi
         case h => rfl
         case hp => rfl
         case hg => (with_reducible repeat (first | refine blk_drewN ?_ _ | refine blk_drew ?_)); refine blk_put (cs := #[.int .i64 0, .int .i64 0, .int .i64 0, .int .i64 0, .int .i64 0, .int .i64 0, .int .u32 0, .string ⟨#[]⟩]) ?_ 7 _ rfl; refine blk_put (cs := #[.int .i64 0, .int .i64 0, .int .i64 0, .int .i64 0, .int .i64 0, .int .i64 0, .int .u32 0, .string ⟨#[]⟩]) ?_ 6 _ rfl; refine blk_put (cs := #[.int .i64 0, .int .i64 0, .int .i64 0, .int .i64 0, .int .i64 0, .int .i64 0, .int .u32 0, .string ⟨#[]⟩]) ?_ 5 _ rfl; refine blk_put (cs := #[.int .i64 0, .int .i64 0, .int .i64 0, .int .i64 0, .int .i64 0, .int .i64 0, .int .u32 0, .string ⟨#[]⟩]) ?_ 4 _ rfl; refine blk_put (cs := #[.int .i64 0, .int .i64 0, .int .i64 0, .int .i64 0, .int .i64 0, .int .i64 0, .int .u32 0, .string ⟨#[]⟩]) ?_ 3 _ rfl; refine blk_put (cs := #[.int .i64 0, .int .i64 0, .int .i64 0, .int .i64 0, .int .i64 0, .int .i64 0, .int .u32 0, .string ⟨#[]⟩]) ?_ 2 _ rfl; refine blk_put (cs := #[.int .i64 0, .int .i64 0, .int .i64 0, .int .i64 0, .int .i64 0, .int .i64 0, .int .u32 0, .string ⟨#[]⟩]) ?_ 1 _ rfl; refine blk_put (cs := #[.int .i64 0, .int .i64 0, .int .i64 0, .int .i64 0, .int .i64 0, .int .i64 0, .int .u32 0, .string ⟨#[]⟩]) ?_ 0 _ rfl; exact blk_below BR.out hb_
         case hd => rfl
         case hi => kernel_rfl
       | true =>
        replace HC : Aside0 (impl_readLine.rd k op (F) 1 va gn vc t = some (r1, r2, r3, r4, r5, r6, r7, r8)) := HC
        go_wp2_with (go_at_call 61; refine (HR.out _ (HT.out.below HB.out)).mono ?_; rintro e w2 ⟨rfl, hb_⟩; have qx : w2.cell? ⟨g2, 2, none⟩ = some (.int .i64 vb) := (blk_cell (blk_below BI.out hb_) 2).trans rfl; have qf := blk_frozen (blk_below BI.out hb_) 2)
        all_goals go_roundw
        case rel => exact ⟨2, if t = [] then off else off + 1, va, gn, vc, t, by omega, rfl, by by_cases ht_ : t = [] <;> simp [ht_], ⟨impl_readLine.At.step HD.out⟩, HC, ⟨blk_far (blk_below BR.out hb_) (fun h => N1.out h.symm) _⟩, ⟨blk_far (blk_below BW.out hb_) (fun h => N2.out h.symm) _⟩, ⟨blk_put (blk_below BI.out hb_) 2 _ rfl⟩, ⟨below_set (below_step HB.out hb_) GE.out⟩⟩
        all_goals simp [intOf]
   · cases e2 with
     | true =>
      go_wp2
      go_roundw
      case rel => exact ⟨3, off, va, vb, vc, wk, by omega, rfl, rfl, HD, ⟨(impl_readLine.rd_skip k op F 0 va vb vc wk (.inr (C2.out.2 rfl))).symm.trans H.out⟩, BR, BW, BI, HB⟩
      case measure => simp [intOf]
     | false =>
      have H1 := (impl_readLine.rd_read k op (F) 0 va vb vc wk (Int.not_lt.2 HN.out) (fun h => Bool.noConfusion (C2.out.1 h))).symm.trans H.out
      cases wk with
      | nil =>
       simp only [impl_readLine.nil_, Option.some.injEq, Prod.mk.injEq] at H1; obtain ⟨rfl, rfl, rfl, rfl, rfl, rfl, rfl, rfl⟩ := H1
       have z0 : wr.cell? ⟨g0, 0, none⟩ = some (.int .i64 0) := (blk_cell BR.out 0).trans rfl
       have y0 := blk_frozen BR.out 0
       have z1 : wr.cell? ⟨g0, 1, none⟩ = some (.int .i64 0) := (blk_cell BR.out 1).trans rfl
       have y1 := blk_frozen BR.out 1
       have z2 : wr.cell? ⟨g0, 2, none⟩ = some (.int .i64 0) := (blk_cell BR.out 2).trans rfl
       have y2 := blk_frozen BR.out 2
       have z3 : wr.cell? ⟨g0, 3, none⟩ = some (.int .i64 0) := (blk_cell BR.out 3).trans rfl
       have y3 := blk_frozen BR.out 3
       have z4 : wr.cell? ⟨g0, 4, none⟩ = some (.int .i64 0) := (blk_cell BR.out 4).trans rfl
       have y4 := blk_frozen BR.out 4
       have z5 : wr.cell? ⟨g0, 5, none⟩ = some (.int .i64 0) := (blk_cell BR.out 5).trans rfl
       have y5 := blk_frozen BR.out 5
       have z6 : wr.cell? ⟨g0, 6, none⟩ = some (.int .u32 0) := (blk_cell BR.out 6).trans rfl
       have y6 := blk_frozen BR.out 6
       have z7 : wr.cell? ⟨g0, 7, none⟩ = some (.string ⟨#[]⟩) := (blk_cell BR.out 7).trans rfl
       have y7 := blk_frozen BR.out 7
       go_wp2
       refine bodyPost_ret (v := .agg #[.int .i64 0, .int .i64 0, .int .i64 0, .int .i64 0, .int .i64 0, .int .i64 0, .int .u32 0, .string ⟨#[]⟩]) ?hr ?he ?hf
       case he => rfl
       case hf => exact ⟨rfl, by (with_reducible repeat (first | exact HB.out | exact hb_ | refine below_set ?_ GZ.out | refine below_set ?_ GE.out | apply below_alloc | apply pw_below_drewN | apply below_drew1))⟩
       case hr =>
        dsimp only
        refine results_cell_row (p := 2) (ty := 64) ?h _ _ g0 64 _ (0, 0) _ ?hp ?hg hu33 ?hd ?hi
        case h => rfl
        case hp => rfl
        case hg => (with_reducible repeat (first | refine blk_drewN ?_ _ | refine blk_drew ?_)); refine blk_put (cs := #[.int .i64 0, .int .i64 0, .int .i64 0, .int .i64 0, .int .i64 0, .int .i64 0, .int .u32 0, .string ⟨#[]⟩]) ?_ 7 _ rfl; refine blk_put (cs := #[.int .i64 0, .int .i64 0, .int .i64 0, .int .i64 0, .int .i64 0, .int .i64 0, .int .u32 0, .string ⟨#[]⟩]) ?_ 6 _ rfl; refine blk_put (cs := #[.int .i64 0, .int .i64 0, .int .i64 0, .int .i64 0, .int .i64 0, .int .i64 0, .int .u32 0, .string ⟨#[]⟩]) ?_ 5 _ rfl; refine blk_put (cs := #[.int .i64 0, .int .i64 0, .int .i64 0, .int .i64 0, .int .i64 0, .int .i64 0, .int .u32 0, .string ⟨#[]⟩]) ?_ 4 _ rfl; refine blk_put (cs := #[.int .i64 0, .int .i64 0, .int .i64 0, .int .i64 0, .int .i64 0, .int .i64 0, .int .u32 0, .string ⟨#[]⟩]) ?_ 3 _ rfl; refine blk_put (cs := #[.int .i64 0, .int .i64 0, .int .i64 0, .int .i64 0, .int .i64 0, .int .i64 0, .int .u32 0, .string ⟨#[]⟩]) ?_ 2 _ rfl; refine blk_put (cs := #[.int .i64 0, .int .i64 0, .int .i64 0, .int .i64 0, .int .i64 0, .int .i64 0, .int .u32 0, .string ⟨#[]⟩]) ?_ 1 _ rfl; refine blk_put (cs := #[.int .i64 0, .int .i64 0, .int .i64 0, .int .i64 0, .int .i64 0, .int .i64 0, .int .u32 0, .string ⟨#[]⟩]) ?_ 0 _ rfl; exact BR.out
        case hd => rfl
        case hi => kernel_rfl
      | cons x t =>
       obtain ⟨⟨gn, gb⟩, hg, H1⟩ := Option.bind_eq_some_iff.1 H1
       have HX := Aside0.mk (HD.out 0 x rfl)
       have HR := Lib.hid (fun W (ht : Tab.TabsODEM W) => impl_register.calls x gn gb W ht hg)
       have HC := Aside0.mk H1
       have cx : wr.cell? ⟨g1, off, none⟩ = some (.string x) := (blk_cell BW.out off).trans HX.out
       have lt : ((t.length : Int) + 1 == 0) = false := by simp; omega
       clear hg H1 H HX
       cases gb with
       | false =>
        have H1 : some impl_readLine.nil_ = some (r1, r2, r3, r4, r5, r6, r7, r8) := HC.out
        simp only [impl_readLine.nil_, Option.some.injEq, Prod.mk.injEq] at H1; obtain ⟨rfl, rfl, rfl, rfl, rfl, rfl, rfl, rfl⟩ := H1
        go_wp2_with (go_at_call 61; refine (HR.out _ (HT.out.below HB.out)).mono ?_; rintro e w2 ⟨rfl, hb_⟩; have z0 : w2.cell? ⟨g0, 0, none⟩ = some (.int .i64 0) := (blk_cell (blk_below BR.out hb_) 0).trans rfl; have y0 := blk_frozen (blk_below BR.out hb_) 0; have z1 : w2.cell? ⟨g0, 1, none⟩ = some (.int .i64 0) := (blk_cell (blk_below BR.out hb_) 1).trans rfl; have y1 := blk_frozen (blk_below BR.out hb_) 1; have z2 : w2.cell? ⟨g0, 2, none⟩ = some (.int .i64 0) := (blk_cell (blk_below BR.out hb_) 2).trans rfl; have y2 := blk_frozen (blk_below BR.out hb_) 2; have z3 : w2.cell? ⟨g0, 3, none⟩ = some (.int .i64 0) := (blk_cell (blk_below BR.out hb_) 3).trans rfl; have y3 := blk_frozen (blk_below BR.out hb_) 3; have z4 : w2.cell? ⟨g0, 4, none⟩ = some (.int .i64 0) := (blk_cell (blk_below BR.out hb_) 4).trans rfl; have y4 := blk_frozen (blk_below BR.out hb_) 4; have z5 : w2.cell? ⟨g0, 5, none⟩ = some (.int .i64 0) := (blk_cell (blk_below BR.out hb_) 5).trans rfl; have y5 := blk_frozen (blk_below BR.out hb_) 5; have z6 : w2.cell? ⟨g0, 6, none⟩ = some (.int .u32 0) := (blk_cell (blk_below BR.out hb_) 6).trans rfl; have y6 := blk_frozen (blk_below BR.out hb_) 6; have z7 : w2.cell? ⟨g0, 7, none⟩ = some (.string ⟨#[]⟩) := (blk_cell (blk_below BR.out hb_) 7).trans rfl; have y7 := blk_frozen (blk_below BR.out hb_) 7)
        refine bodyPost_ret (v := .agg #[.int .i64 0, .int .i64 0, .int .i64 0, .int .i64 0, .int .i64 0, .int .i64 0, .int .u32 0, .string ⟨#[]⟩]) ?hr ?he ?hf
        case he => rfl
        case hf => exact ⟨rfl, by (with_reducible repeat (first | exact below_step HB.out hb_ | refine below_set ?_ GZ.out))⟩
        case hr =>
         dsimp only
         refine results_cell_row (p := 2) (ty := 64) ?h _ _ g0 64 _ (0, 0) _ ?hp ?hg hu33 ?hd ?hi
         case h => rfl
         case hp => rfl
         case hg => (with_reducible repeat (first | refine blk_drewN ?_ _ | refine blk_drew ?_)); refine blk_put (cs := #[.int .i64 0, .int .i64 0, .int .i64 0, .int .i64 0, .int .i64 0, .int .i64 0, .int .u32 0, .string ⟨#[]⟩]) ?_ 7 _ rfl; refine blk_put (cs := #[.int .i64 0, .int .i64 0, .int .i64 0, .int .i64 0, .int .i64 0, .int .i64 0, .int .u32 0, .string ⟨#[]⟩]) ?_ 6 _ rfl; refine blk_put (cs := #[.int .i64 0, .int .i64 0, .int .i64 0, .int .i64 0, .int .i64 0, .int .i64 0, .int .u32 0, .string ⟨#[]⟩]) ?_ 5 _ rfl; refine blk_put (cs := #[.int .i64 0, .int .i64 0, .int .i64 0, .int .i64 0, .int .i64 0, .int .i64 0, .int .u32 0, .string ⟨#[]⟩]) ?_ 4 _ rfl; refine blk_put (cs := #[.int .i64 0, .int .i64 0, .int .i64 0, .int .i64 0, .int .i64 0, .int .i64 0, .int .u32 0, .string ⟨#[]⟩]) ?_ 3 _ rfl; refine blk_put (cs := #[.int .i64 0, .int .i64 0, .int .i64 0, .int .i64 0, .int .i64 0, .int .i64 0, .int .u32 0, .string ⟨#[]⟩]) ?_ 2 _ rfl; refine blk_put (cs := #[.int .i64 0, .int .i64 0, .int .i64 0, .int .i64 0, .int .i64 0, .int .i64 0, .int .u32 0, .string ⟨#[]⟩]) ?_ 1 _ rfl; refine blk_put (cs := #[.int .i64 0, .int .i64 0, .int .i64 0, .int .i64 0, .int .i64 0, .int .i64 0, .int .u32 0, .string ⟨#[]⟩]) ?_ 0 _ rfl; exact blk_below BR.out hb_
         case hd => rfl
         case hi => kernel_rfl
       | true =>
        replace HC : Aside0 (impl_readLine.rd k op (F) 0 va vb gn t = some (r1, r2, r3, r4, r5, r6, r7, r8)) := HC
        go_wp2_with (go_at_call 61; refine (HR.out _ (HT.out.below HB.out)).mono ?_; rintro e w2 ⟨rfl, hb_⟩; have qx : w2.cell? ⟨g2, 3, none⟩ = some (.int .i64 vc) := (blk_cell (blk_below BI.out hb_) 3).trans rfl; have qf := blk_frozen (blk_below BI.out hb_) 3)
        all_goals go_roundw
        case rel => exact ⟨3, if t = [] then off else off + 1, va, vb, gn, t, by omega, rfl, by by_cases ht_ : t = [] <;> simp [ht_], ⟨impl_readLine.At.step HD.out⟩, HC, ⟨blk_far (blk_below BR.out hb_) (fun h => N1.out h.symm) _⟩, ⟨blk_far (blk_below BW.out hb_) (fun h => N2.out h.symm) _⟩, ⟨blk_put (blk_below BI.out hb_) 3 _ rfl⟩, ⟨below_set (below_step HB.out hb_) GE.out⟩⟩
        all_goals simp [intOf]
   · have H1 : impl_readLine.fin k op (F) va vb vc wk = some (r1, r2, r3, r4, r5, r6, r7, r8) := H.out
     cases e3 with
     | true =>
      rw [impl_readLine.fin_reg k op (F) va vb vc wk (Int.not_lt.2 HN.out) (C3.out.2 rfl)] at H1
      cases wk with
      | nil =>
       rw [if_pos rfl] at H1; simp only [impl_readLine.nil_, Option.some.injEq, Prod.mk.injEq] at H1; obtain ⟨rfl, rfl, rfl, rfl, rfl, rfl, rfl, rfl⟩ := H1
       have z0 : wr.cell? ⟨g0, 0, none⟩ = some (.int .i64 0) := (blk_cell BR.out 0).trans rfl
       have y0 := blk_frozen BR.out 0
       have z1 : wr.cell? ⟨g0, 1, none⟩ = some (.int .i64 0) := (blk_cell BR.out 1).trans rfl
       have y1 := blk_frozen BR.out 1
       have z2 : wr.cell? ⟨g0, 2, none⟩ = some (.int .i64 0) := (blk_cell BR.out 2).trans rfl
       have y2 := blk_frozen BR.out 2
       have z3 : wr.cell? ⟨g0, 3, none⟩ = some (.int .i64 0) := (blk_cell BR.out 3).trans rfl
       have y3 := blk_frozen BR.out 3
       have z4 : wr.cell? ⟨g0, 4, none⟩ = some (.int .i64 0) := (blk_cell BR.out 4).trans rfl
       have y4 := blk_frozen BR.out 4
       have z5 : wr.cell? ⟨g0, 5, none⟩ = some (.int .i64 0) := (blk_cell BR.out 5).trans rfl
       have y5 := blk_frozen BR.out 5
       have z6 : wr.cell? ⟨g0, 6, none⟩ = some (.int .u32 0) := (blk_cell BR.out 6).trans rfl
       have y6 := blk_frozen BR.out 6
       have z7 : wr.cell? ⟨g0, 7, none⟩ = some (.string ⟨#[]⟩) := (blk_cell BR.out 7).trans rfl
       have y7 := blk_frozen BR.out 7
       have q0 : wr.cell? ⟨g2, 0, none⟩ = some (.int .i64 op) := (blk_cell BI.out 0).trans rfl
       have q1 : wr.cell? ⟨g2, 1, none⟩ = some (.int .i64 va) := (blk_cell BI.out 1).trans rfl
       have q2 : wr.cell? ⟨g2, 2, none⟩ = some (.int .i64 vb) := (blk_cell BI.out 2).trans rfl
       have q3 : wr.cell? ⟨g2, 3, none⟩ = some (.int .i64 vc) := (blk_cell BI.out 3).trans rfl
       have q4 : wr.cell? ⟨g2, 4, none⟩ = some (.int .i64 0) := (blk_cell BI.out 4).trans rfl
       go_wp2
       refine bodyPost_ret (v := .agg #[.int .i64 3, .int .i64 op, .int .i64 va, .int .i64 vb, .int .i64 vc, .int .i64 0, .int .u32 0, .string ⟨#[]⟩]) ?hr ?he ?hf
       case he => rfl
       case hf => exact ⟨rfl, by (with_reducible repeat (first | exact HB.out | exact hb_ | refine below_set ?_ GZ.out | refine below_set ?_ GE.out | apply below_alloc | apply pw_below_drewN | apply below_drew1))⟩
       case hr =>
        dsimp only
        refine results_cell_row (p := 2) (ty := 64) ?h _ _ g0 64 _ (0, 0) _ ?hp ?hg hu33 ?hd ?hi
        case h => rfl
        case hp => rfl
        case hg => (with_reducible repeat (first | refine blk_drewN ?_ _ | refine blk_drew ?_)); refine blk_put (cs := #[.int .i64 3, .int .i64 op, .int .i64 va, .int .i64 vb, .int .i64 vc, .int .i64 0, .int .u32 0, .string ⟨#[]⟩]) ?_ 7 _ rfl; refine blk_put (cs := #[.int .i64 3, .int .i64 op, .int .i64 va, .int .i64 vb, .int .i64 vc, .int .i64 0, .int .u32 0, .string ⟨#[]⟩]) ?_ 6 _ rfl; refine blk_put (cs := #[.int .i64 3, .int .i64 op, .int .i64 va, .int .i64 vb, .int .i64 vc, .int .i64 0, .int .u32 0, .string ⟨#[]⟩]) ?_ 5 _ rfl; refine blk_put (cs := #[.int .i64 3, .int .i64 op, .int .i64 va, .int .i64 vb, .int .i64 0, .int .i64 0, .int .u32 0, .string ⟨#[]⟩]) ?_ 4 _ rfl; refine blk_put (cs := #[.int .i64 3, .int .i64 op, .int .i64 va, .int .i64 0, .int .i64 0, .int .i64 0, .int .u32 0, .string ⟨#[]⟩]) ?_ 3 _ rfl; refine blk_put (cs := #[.int .i64 3, .int .i64 op, .int .i64 0, .int .i64 0, .int .i64 0, .int .i64 0, .int .u32 0, .string ⟨#[]⟩]) ?_ 2 _ rfl; refine blk_put (cs := #[.int .i64 3, .int .i64 0, .int .i64 0, .int .i64 0, .int .i64 0, .int .i64 0, .int .u32 0, .string ⟨#[]⟩]) ?_ 1 _ rfl; refine blk_put (cs := #[.int .i64 0, .int .i64 0, .int .i64 0, .int .i64 0, .int .i64 0, .int .i64 0, .int .u32 0, .string ⟨#[]⟩]) ?_ 0 _ rfl; exact BR.out
        case hd => rfl
        case hi => kernel_rfl
      | cons x t =>
       rw [if_neg (by simp)] at H1; simp only [impl_readLine.nil_, Option.some.injEq, Prod.mk.injEq] at H1; obtain ⟨rfl, rfl, rfl, rfl, rfl, rfl, rfl, rfl⟩ := H1
       have z0 : wr.cell? ⟨g0, 0, none⟩ = some (.int .i64 0) := (blk_cell BR.out 0).trans rfl
       have y0 := blk_frozen BR.out 0
       have z1 : wr.cell? ⟨g0, 1, none⟩ = some (.int .i64 0) := (blk_cell BR.out 1).trans rfl
       have y1 := blk_frozen BR.out 1
       have z2 : wr.cell? ⟨g0, 2, none⟩ = some (.int .i64 0) := (blk_cell BR.out 2).trans rfl
       have y2 := blk_frozen BR.out 2
       have z3 : wr.cell? ⟨g0, 3, none⟩ = some (.int .i64 0) := (blk_cell BR.out 3).trans rfl
       have y3 := blk_frozen BR.out 3
       have z4 : wr.cell? ⟨g0, 4, none⟩ = some (.int .i64 0) := (blk_cell BR.out 4).trans rfl
       have y4 := blk_frozen BR.out 4
       have z5 : wr.cell? ⟨g0, 5, none⟩ = some (.int .i64 0) := (blk_cell BR.out 5).trans rfl
       have y5 := blk_frozen BR.out 5
       have z6 : wr.cell? ⟨g0, 6, none⟩ = some (.int .u32 0) := (blk_cell BR.out 6).trans rfl
       have y6 := blk_frozen BR.out 6
       have z7 : wr.cell? ⟨g0, 7, none⟩ = some (.string ⟨#[]⟩) := (blk_cell BR.out 7).trans rfl
       have y7 := blk_frozen BR.out 7
       go_wp2
       refine bodyPost_ret (v := .agg #[.int .i64 0, .int .i64 0, .int .i64 0, .int .i64 0, .int .i64 0, .int .i64 0, .int .u32 0, .string ⟨#[]⟩]) ?hr ?he ?hf
       case he => rfl
       case hf => exact ⟨rfl, by (with_reducible repeat (first | exact HB.out | exact hb_ | refine below_set ?_ GZ.out | refine below_set ?_ GE.out | apply below_alloc | apply pw_below_drewN | apply below_drew1))⟩
       case hr =>
        dsimp only
        refine results_cell_row (p := 2) (ty := 64) ?h _ _ g0 64 _ (0, 0) _ ?hp ?hg hu33 ?hd ?hi
        case h => rfl
        case hp => rfl
        case hg => (with_reducible repeat (first | refine blk_drewN ?_ _ | refine blk_drew ?_)); refine blk_put (cs := #[.int .i64 0, .int .i64 0, .int .i64 0, .int .i64 0, .int .i64 0, .int .i64 0, .int .u32 0, .string ⟨#[]⟩]) ?_ 7 _ rfl; refine blk_put (cs := #[.int .i64 0, .int .i64 0, .int .i64 0, .int .i64 0, .int .i64 0, .int .i64 0, .int .u32 0, .string ⟨#[]⟩]) ?_ 6 _ rfl; refine blk_put (cs := #[.int .i64 0, .int .i64 0, .int .i64 0, .int .i64 0, .int .i64 0, .int .i64 0, .int .u32 0, .string ⟨#[]⟩]) ?_ 5 _ rfl; refine blk_put (cs := #[.int .i64 0, .int .i64 0, .int .i64 0, .int .i64 0, .int .i64 0, .int .i64 0, .int .u32 0, .string ⟨#[]⟩]) ?_ 4 _ rfl; refine blk_put (cs := #[.int .i64 0, .int .i64 0, .int .i64 0, .int .i64 0, .int .i64 0, .int .i64 0, .int .u32 0, .string ⟨#[]⟩]) ?_ 3 _ rfl; refine blk_put (cs := #[.int .i64 0, .int .i64 0, .int .i64 0, .int .i64 0, .int .i64 0, .int .i64 0, .int .u32 0, .string ⟨#[]⟩]) ?_ 2 _ rfl; refine blk_put (cs := #[.int .i64 0, .int .i64 0, .int .i64 0, .int .i64 0, .int .i64 0, .int .i64 0, .int .u32 0, .string ⟨#[]⟩]) ?_ 1 _ rfl; refine blk_put (cs := #[.int .i64 0, .int .i64 0, .int .i64 0, .int .i64 0, .int .i64 0, .int .i64 0, .int .u32 0, .string ⟨#[]⟩]) ?_ 0 _ rfl; exact BR.out
        case hd => rfl
        case hi => kernel_rfl
     | false =>
      rw [impl_readLine.fin_imm k op (F) va vb vc wk (Int.not_lt.2 HN.out) (fun h => Bool.noConfusion (C3.out.1 h))] at H1
      cases wk with
      | nil =>
       simp only [impl_readLine.nil_, Option.some.injEq, Prod.mk.injEq] at H1; obtain ⟨rfl, rfl, rfl, rfl, rfl, rfl, rfl, rfl⟩ := H1
       have z0 : wr.cell? ⟨g0, 0, none⟩ = some (.int .i64 0) := (blk_cell BR.out 0).trans rfl
       have y0 := blk_frozen BR.out 0
       have z1 : wr.cell? ⟨g0, 1, none⟩ = some (.int .i64 0) := (blk_cell BR.out 1).trans rfl
       have y1 := blk_frozen BR.out 1
       have z2 : wr.cell? ⟨g0, 2, none⟩ = some (.int .i64 0) := (blk_cell BR.out 2).trans rfl
       have y2 := blk_frozen BR.out 2
       have z3 : wr.cell? ⟨g0, 3, none⟩ = some (.int .i64 0) := (blk_cell BR.out 3).trans rfl
       have y3 := blk_frozen BR.out 3
       have z4 : wr.cell? ⟨g0, 4, none⟩ = some (.int .i64 0) := (blk_cell BR.out 4).trans rfl
       have y4 := blk_frozen BR.out 4
       have z5 : wr.cell? ⟨g0, 5, none⟩ = some (.int .i64 0) := (blk_cell BR.out 5).trans rfl
       have y5 := blk_frozen BR.out 5
       have z6 : wr.cell? ⟨g0, 6, none⟩ = some (.int .u32 0) := (blk_cell BR.out 6).trans rfl
       have y6 := blk_frozen BR.out 6
       have z7 : wr.cell? ⟨g0, 7, none⟩ = some (.string ⟨#[]⟩) := (blk_cell BR.out 7).trans rfl
       have y7 := blk_frozen BR.out 7
       go_wp2
       refine bodyPost_ret (v := .agg #[.int .i64 0, .int .i64 0, .int .i64 0, .int .i64 0, .int .i64 0, .int .i64 0, .int .u32 0, .string ⟨#[]⟩]) ?hr ?he ?hf
       case he => rfl
       case hf => exact ⟨rfl, by (with_reducible repeat (first | exact HB.out | exact hb_ | refine below_set ?_ GZ.out | refine below_set ?_ GE.out | apply below_alloc | apply pw_below_drewN | apply below_drew1))⟩
       case hr =>
        dsimp only
        refine results_cell_row (p := 2) (ty := 64) ?h _ _ g0 64 _ (0, 0) _ ?hp ?hg hu33 ?hd ?hi
        case h => rfl
        case hp => rfl
        case hg => (with_reducible repeat (first | refine blk_drewN ?_ _ | refine blk_drew ?_)); refine blk_put (cs := #[.int .i64 0, .int .i64 0, .int .i64 0, .int .i64 0, .int .i64 0, .int .i64 0, .int .u32 0, .string ⟨#[]⟩]) ?_ 7 _ rfl; refine blk_put (cs := #[.int .i64 0, .int .i64 0, .int .i64 0, .int .i64 0, .int .i64 0, .int .i64 0, .int .u32 0, .string ⟨#[]⟩]) ?_ 6 _ rfl; refine blk_put (cs := #[.int .i64 0, .int .i64 0, .int .i64 0, .int .i64 0, .int .i64 0, .int .i64 0, .int .u32 0, .string ⟨#[]⟩]) ?_ 5 _ rfl; refine blk_put (cs := #[.int .i64 0, .int .i64 0, .int .i64 0, .int .i64 0, .int .i64 0, .int .i64 0, .int .u32 0, .string ⟨#[]⟩]) ?_ 4 _ rfl; refine blk_put (cs := #[.int .i64 0, .int .i64 0, .int .i64 0, .int .i64 0, .int .i64 0, .int .i64 0, .int .u32 0, .string ⟨#[]⟩]) ?_ 3 _ rfl; refine blk_put (cs := #[.int .i64 0, .int .i64 0, .int .i64 0, .int .i64 0, .int .i64 0, .int .i64 0, .int .u32 0, .string ⟨#[]⟩]) ?_ 2 _ rfl; refine blk_put (cs := #[.int .i64 0, .int .i64 0, .int .i64 0, .int .i64 0, .int .i64 0, .int .i64 0, .int .u32 0, .string ⟨#[]⟩]) ?_ 1 _ rfl; refine blk_put (cs := #[.int .i64 0, .int .i64 0, .int .i64 0, .int .i64 0, .int .i64 0, .int .i64 0, .int .u32 0, .string ⟨#[]⟩]) ?_ 0 _ rfl; exact BR.out
        case hd => rfl
        case hi => kernel_rfl
      | cons x t =>
       cases t with
       | cons x2 t =>
        simp only [impl_readLine.nil_, Option.some.injEq, Prod.mk.injEq] at H1; obtain ⟨rfl, rfl, rfl, rfl, rfl, rfl, rfl, rfl⟩ := H1
        have z0 : wr.cell? ⟨g0, 0, none⟩ = some (.int .i64 0) := (blk_cell BR.out 0).trans rfl
        have y0 := blk_frozen BR.out 0
        have z1 : wr.cell? ⟨g0, 1, none⟩ = some (.int .i64 0) := (blk_cell BR.out 1).trans rfl
        have y1 := blk_frozen BR.out 1
        have z2 : wr.cell? ⟨g0, 2, none⟩ = some (.int .i64 0) := (blk_cell BR.out 2).trans rfl
        have y2 := blk_frozen BR.out 2
        have z3 : wr.cell? ⟨g0, 3, none⟩ = some (.int .i64 0) := (blk_cell BR.out 3).trans rfl
        have y3 := blk_frozen BR.out 3
        have z4 : wr.cell? ⟨g0, 4, none⟩ = some (.int .i64 0) := (blk_cell BR.out 4).trans rfl
        have y4 := blk_frozen BR.out 4
        have z5 : wr.cell? ⟨g0, 5, none⟩ = some (.int .i64 0) := (blk_cell BR.out 5).trans rfl
        have y5 := blk_frozen BR.out 5
        have z6 : wr.cell? ⟨g0, 6, none⟩ = some (.int .u32 0) := (blk_cell BR.out 6).trans rfl
        have y6 := blk_frozen BR.out 6
        have z7 : wr.cell? ⟨g0, 7, none⟩ = some (.string ⟨#[]⟩) := (blk_cell BR.out 7).trans rfl
        have y7 := blk_frozen BR.out 7
        have lt2 : ((t.length : Int) + 1 + 1 == 1) = false := by simp; omega
        have lt3 : ((t.length : Int) + 1 + 1 != 1) = true := by simp; omega
        go_wp2
        refine bodyPost_ret (v := .agg #[.int .i64 0, .int .i64 0, .int .i64 0, .int .i64 0, .int .i64 0, .int .i64 0, .int .u32 0, .string ⟨#[]⟩]) ?hr ?he ?hf
        case he => rfl
        case hf => exact ⟨rfl, by (with_reducible repeat (first | exact HB.out | exact hb_ | refine below_set ?_ GZ.out | refine below_set ?_ GE.out | apply below_alloc | apply pw_below_drewN | apply below_drew1))⟩
        case hr =>
         dsimp only
         refine results_cell_row (p := 2) (ty := 64) ?h _ _ g0 64 _ (0, 0) _ ?hp ?hg hu33 ?hd ?hi
         case h => rfl
         case hp => rfl
         case hg => (with_reducible repeat (first | refine blk_drewN ?_ _ | refine blk_drew ?_)); refine blk_put (cs := #[.int .i64 0, .int .i64 0, .int .i64 0, .int .i64 0, .int .i64 0, .int .i64 0, .int .u32 0, .string ⟨#[]⟩]) ?_ 7 _ rfl; refine blk_put (cs := #[.int .i64 0, .int .i64 0, .int .i64 0, .int .i64 0, .int .i64 0, .int .i64 0, .int .u32 0, .string ⟨#[]⟩]) ?_ 6 _ rfl; refine blk_put (cs := #[.int .i64 0, .int .i64 0, .int .i64 0, .int .i64 0, .int .i64 0, .int .i64 0, .int .u32 0, .string ⟨#[]⟩]) ?_ 5 _ rfl; refine blk_put (cs := #[.int .i64 0, .int .i64 0, .int .i64 0, .int .i64 0, .int .i64 0, .int .i64 0, .int .u32 0, .string ⟨#[]⟩]) ?_ 4 _ rfl; refine blk_put (cs := #[.int .i64 0, .int .i64 0, .int .i64 0, .int .i64 0, .int .i64 0, .int .i64 0, .int .u32 0, .string ⟨#[]⟩]) ?_ 3 _ rfl; refine blk_put (cs := #[.int .i64 0, .int .i64 0, .int .i64 0, .int .i64 0, .int .i64 0, .int .i64 0, .int .u32 0, .string ⟨#[]⟩]) ?_ 2 _ rfl; refine blk_put (cs := #[.int .i64 0, .int .i64 0, .int .i64 0, .int .i64 0, .int .i64 0, .int .i64 0, .int .u32 0, .string ⟨#[]⟩]) ?_ 1 _ rfl; refine blk_put (cs := #[.int .i64 0, .int .i64 0, .int .i64 0, .int .i64 0, .int .i64 0, .int .i64 0, .int .u32 0, .string ⟨#[]⟩]) ?_ 0 _ rfl; exact BR.out
         case hd => rfl
         case hi => kernel_rfl
       | nil =>
        have HX := Aside0.mk (HD.out 0 x rfl)
        have cx : wr.cell? ⟨g1, off, none⟩ = some (.string x) := (blk_cell BW.out off).trans HX.out
        obtain ⟨⟨dn, db⟩, hd, H1⟩ := Option.bind_eq_some_iff.1 H1
        have HDN := Lib.hid (fun W (ht : Tab.TabsODEM W) => impl_DecNum.calls x 8192 dn db W ht hd)
        clear hd H HD
        cases db with
        | false =>
         replace H1 : impl_readLine.br k op va vb vc x = some (r1, r2, r3, r4, r5, r6, r7, r8) := H1
         obtain ⟨q, hq, H1⟩ := Option.bind_eq_some_iff.1 H1
         have HBQ := Lib.hid (fun W => impl_isBranch.calls op q W hq)
         clear hq
         cases q with
         | false =>
          replace H1 : some impl_readLine.nil_ = some (r1, r2, r3, r4, r5, r6, r7, r8) := H1; simp only [impl_readLine.nil_, Option.some.injEq, Prod.mk.injEq] at H1; obtain ⟨rfl, rfl, rfl, rfl, rfl, rfl, rfl, rfl⟩ := H1
          go_wp2_with (first | (go_at_call 58; refine (HDN.out _ (HT.out.below HB.out)).mono ?_; rintro e w2 ⟨rfl, hb_⟩; have cx2 : w2.cell? ⟨g1, off, none⟩ = some (.string x) := (blk_cell (blk_below BW.out hb_) off).trans HX.out; have q0 : w2.cell? ⟨g2, 0, none⟩ = some (.int .i64 op) := (blk_cell (blk_below BI.out hb_) 0).trans rfl; have q1 : w2.cell? ⟨g2, 1, none⟩ = some (.int .i64 va) := (blk_cell (blk_below BI.out hb_) 1).trans rfl; have q2 : w2.cell? ⟨g2, 2, none⟩ = some (.int .i64 vb) := (blk_cell (blk_below BI.out hb_) 2).trans rfl; have q3 : w2.cell? ⟨g2, 3, none⟩ = some (.int .i64 vc) := (blk_cell (blk_below BI.out hb_) 3).trans rfl; have q4 : w2.cell? ⟨g2, 4, none⟩ = some (.int .i64 0) := (blk_cell (blk_below BI.out hb_) 4).trans rfl; have z0 : w2.cell? ⟨g0, 0, none⟩ = some (.int .i64 0) := (blk_cell (blk_below BR.out hb_) 0).trans rfl; have y0 := blk_frozen (blk_below BR.out hb_) 0; have z1 : w2.cell? ⟨g0, 1, none⟩ = some (.int .i64 0) := (blk_cell (blk_below BR.out hb_) 1).trans rfl; have y1 := blk_frozen (blk_below BR.out hb_) 1; have z2 : w2.cell? ⟨g0, 2, none⟩ = some (.int .i64 0) := (blk_cell (blk_below BR.out hb_) 2).trans rfl; have y2 := blk_frozen (blk_below BR.out hb_) 2; have z3 : w2.cell? ⟨g0, 3, none⟩ = some (.int .i64 0) := (blk_cell (blk_below BR.out hb_) 3).trans rfl; have y3 := blk_frozen (blk_below BR.out hb_) 3; have z4 : w2.cell? ⟨g0, 4, none⟩ = some (.int .i64 0) := (blk_cell (blk_below BR.out hb_) 4).trans rfl; have y4 := blk_frozen (blk_below BR.out hb_) 4; have z5 : w2.cell? ⟨g0, 5, none⟩ = some (.int .i64 0) := (blk_cell (blk_below BR.out hb_) 5).trans rfl; have y5 := blk_frozen (blk_below BR.out hb_) 5; have z6 : w2.cell? ⟨g0, 6, none⟩ = some (.int .u32 0) := (blk_cell (blk_below BR.out hb_) 6).trans rfl; have y6 := blk_frozen (blk_below BR.out hb_) 6; have z7 : w2.cell? ⟨g0, 7, none⟩ = some (.string ⟨#[]⟩) := (blk_cell (blk_below BR.out hb_) 7).trans rfl; have y7 := blk_frozen (blk_below BR.out hb_) 7) | (go_at_call 62; (with_reducible refine (HBQ.out _).mono ?_); rintro e w' ⟨rfl, nd, rfl⟩))
          refine bodyPost_ret (v := .agg #[.int .i64 0, .int .i64 0, .int .i64 0, .int .i64 0, .int .i64 0, .int .i64 0, .int .u32 0, .string ⟨#[]⟩]) ?hr ?he ?hf
          case he => rfl
          case hf => exact ⟨rfl, by (with_reducible repeat (first | exact below_step HB.out hb_ | refine below_set ?_ GZ.out | refine below_set ?_ GE.out | apply pw_below_drewN | apply below_drew1))⟩
          case hr =>
           dsimp only
           refine results_cell_row (p := 2) (ty := 64) ?h _ _ g0 64 _ (0, 0) _ ?hp ?hg hu33 ?hd ?hi
           case h => rfl
           case hp => rfl
           case hg => (with_reducible repeat (first | refine blk_drewN ?_ _ | refine blk_drew ?_)); refine blk_put (cs := #[.int .i64 0, .int .i64 0, .int .i64 0, .int .i64 0, .int .i64 0, .int .i64 0, .int .u32 0, .string ⟨#[]⟩]) ?_ 7 _ rfl; refine blk_put (cs := #[.int .i64 0, .int .i64 0, .int .i64 0, .int .i64 0, .int .i64 0, .int .i64 0, .int .u32 0, .string ⟨#[]⟩]) ?_ 6 _ rfl; refine blk_put (cs := #[.int .i64 0, .int .i64 0, .int .i64 0, .int .i64 0, .int .i64 0, .int .i64 0, .int .u32 0, .string ⟨#[]⟩]) ?_ 5 _ rfl; refine blk_put (cs := #[.int .i64 0, .int .i64 0, .int .i64 0, .int .i64 0, .int .i64 0, .int .i64 0, .int .u32 0, .string ⟨#[]⟩]) ?_ 4 _ rfl; refine blk_put (cs := #[.int .i64 0, .int .i64 0, .int .i64 0, .int .i64 0, .int .i64 0, .int .i64 0, .int .u32 0, .string ⟨#[]⟩]) ?_ 3 _ rfl; refine blk_put (cs := #[.int .i64 0, .int .i64 0, .int .i64 0, .int .i64 0, .int .i64 0, .int .i64 0, .int .u32 0, .string ⟨#[]⟩]) ?_ 2 _ rfl; refine blk_put (cs := #[.int .i64 0, .int .i64 0, .int .i64 0, .int .i64 0, .int .i64 0, .int .i64 0, .int .u32 0, .string ⟨#[]⟩]) ?_ 1 _ rfl; refine blk_put (cs := #[.int .i64 0, .int .i64 0, .int .i64 0, .int .i64 0, .int .i64 0, .int .i64 0, .int .u32 0, .string ⟨#[]⟩]) ?_ 0 _ rfl; (with_reducible repeat (first | refine blk_drewN ?_ _ | refine blk_drew ?_)); exact blk_below BR.out hb_
           case hd => rfl
           case hi => kernel_rfl
         | true =>
          obtain ⟨l, hl, H1⟩ := Option.bind_eq_some_iff.1 H1
          have HBL := Lib.hid (fun W => impl_isLabel.calls k x l W hl)
          clear hl
          cases l with
          | false =>
           replace H1 : some impl_readLine.nil_ = some (r1, r2, r3, r4, r5, r6, r7, r8) := H1; simp only [impl_readLine.nil_, Option.some.injEq, Prod.mk.injEq] at H1; obtain ⟨rfl, rfl, rfl, rfl, rfl, rfl, rfl, rfl⟩ := H1
           go_wp2_with (first | (go_at_call 58; refine (HDN.out _ (HT.out.below HB.out)).mono ?_; rintro e w2 ⟨rfl, hb_⟩; have cx2 : w2.cell? ⟨g1, off, none⟩ = some (.string x) := (blk_cell (blk_below BW.out hb_) off).trans HX.out; have q0 : w2.cell? ⟨g2, 0, none⟩ = some (.int .i64 op) := (blk_cell (blk_below BI.out hb_) 0).trans rfl; have q1 : w2.cell? ⟨g2, 1, none⟩ = some (.int .i64 va) := (blk_cell (blk_below BI.out hb_) 1).trans rfl; have q2 : w2.cell? ⟨g2, 2, none⟩ = some (.int .i64 vb) := (blk_cell (blk_below BI.out hb_) 2).trans rfl; have q3 : w2.cell? ⟨g2, 3, none⟩ = some (.int .i64 vc) := (blk_cell (blk_below BI.out hb_) 3).trans rfl; have q4 : w2.cell? ⟨g2, 4, none⟩ = some (.int .i64 0) := (blk_cell (blk_below BI.out hb_) 4).trans rfl; have z0 : w2.cell? ⟨g0, 0, none⟩ = some (.int .i64 0) := (blk_cell (blk_below BR.out hb_) 0).trans rfl; have y0 := blk_frozen (blk_below BR.out hb_) 0; have z1 : w2.cell? ⟨g0, 1, none⟩ = some (.int .i64 0) := (blk_cell (blk_below BR.out hb_) 1).trans rfl; have y1 := blk_frozen (blk_below BR.out hb_) 1; have z2 : w2.cell? ⟨g0, 2, none⟩ = some (.int .i64 0) := (blk_cell (blk_below BR.out hb_) 2).trans rfl; have y2 := blk_frozen (blk_below BR.out hb_) 2; have z3 : w2.cell? ⟨g0, 3, none⟩ = some (.int .i64 0) := (blk_cell (blk_below BR.out hb_) 3).trans rfl; have y3 := blk_frozen (blk_below BR.out hb_) 3; have z4 : w2.cell? ⟨g0, 4, none⟩ = some (.int .i64 0) := (blk_cell (blk_below BR.out hb_) 4).trans rfl; have y4 := blk_frozen (blk_below BR.out hb_) 4; have z5 : w2.cell? ⟨g0, 5, none⟩ = some (.int .i64 0) := (blk_cell (blk_below BR.out hb_) 5).trans rfl; have y5 := blk_frozen (blk_below BR.out hb_) 5; have z6 : w2.cell? ⟨g0, 6, none⟩ = some (.int .u32 0) := (blk_cell (blk_below BR.out hb_) 6).trans rfl; have y6 := blk_frozen (blk_below BR.out hb_) 6; have z7 : w2.cell? ⟨g0, 7, none⟩ = some (.string ⟨#[]⟩) := (blk_cell (blk_below BR.out hb_) 7).trans rfl; have y7 := blk_frozen (blk_below BR.out hb_) 7) | (go_at_call 62; (with_reducible refine (HBQ.out _).mono ?_); rintro e w' ⟨rfl, nd, rfl⟩) | (go_at_call 57; (with_reducible refine (HBL.out _).mono ?_); rintro e w' ⟨rfl, nd, rfl⟩))
           refine bodyPost_ret (v := .agg #[.int .i64 0, .int .i64 0, .int .i64 0, .int .i64 0, .int .i64 0, .int .i64 0, .int .u32 0, .string ⟨#[]⟩]) ?hr ?he ?hf
           case he => rfl
           case hf => exact ⟨rfl, by (with_reducible repeat (first | exact below_step HB.out hb_ | refine below_set ?_ GZ.out | refine below_set ?_ GE.out | apply pw_below_drewN | apply below_drew1))⟩
           case hr =>
            dsimp only
            refine results_cell_row (p := 2) (ty := 64) ?h _ _ g0 64 _ (0, 0) _ ?hp ?hg hu33 ?hd ?hi
            case h => rfl
            case hp => rfl
            case hg => (with_reducible repeat (first | refine blk_drewN ?_ _ | refine blk_drew ?_)); refine blk_put (cs := #[.int .i64 0, .int .i64 0, .int .i64 0, .int .i64 0, .int .i64 0, .int .i64 0, .int .u32 0, .string ⟨#[]⟩]) ?_ 7 _ rfl; refine blk_put (cs := #[.int .i64 0, .int .i64 0, .int .i64 0, .int .i64 0, .int .i64 0, .int .i64 0, .int .u32 0, .string ⟨#[]⟩]) ?_ 6 _ rfl; refine blk_put (cs := #[.int .i64 0, .int .i64 0, .int .i64 0, .int .i64 0, .int .i64 0, .int .i64 0, .int .u32 0, .string ⟨#[]⟩]) ?_ 5 _ rfl; refine blk_put (cs := #[.int .i64 0, .int .i64 0, .int .i64 0, .int .i64 0, .int .i64 0, .int .i64 0, .int .u32 0, .string ⟨#[]⟩]) ?_ 4 _ rfl; refine blk_put (cs := #[.int .i64 0, .int .i64 0, .int .i64 0, .int .i64 0, .int .i64 0, .int .i64 0, .int .u32 0, .string ⟨#[]⟩]) ?_ 3 _ rfl; refine blk_put (cs := #[.int .i64 0, .int .i64 0, .int .i64 0, .int .i64 0, .int .i64 0, .int .i64 0, .int .u32 0, .string ⟨#[]⟩]) ?_ 2 _ rfl; refine blk_put (cs := #[.int .i64 0, .int .i64 0, .int .i64 0, .int .i64 0, .int .i64 0, .int .i64 0, .int .u32 0, .string ⟨#[]⟩]) ?_ 1 _ rfl; refine blk_put (cs := #[.int .i64 0, .int .i64 0, .int .i64 0, .int .i64 0, .int .i64 0, .int .i64 0, .int .u32 0, .string ⟨#[]⟩]) ?_ 0 _ rfl; (with_reducible repeat (first | refine blk_drewN ?_ _ | refine blk_drew ?_)); exact blk_below BR.out hb_
            case hd => rfl
            case hi => kernel_rfl
          | true =>
           replace H1 : some ((4 : Int), op, va, vb, vc, (0 : Int), (0 : Int), x) = some (r1, r2, r3, r4, r5, r6, r7, r8) := H1; simp only [impl_readLine.nil_, Option.some.injEq, Prod.mk.injEq] at H1; obtain ⟨rfl, rfl, rfl, rfl, rfl, rfl, rfl, rfl⟩ := H1
           go_wp2_with (first | (go_at_call 58; refine (HDN.out _ (HT.out.below HB.out)).mono ?_; rintro e w2 ⟨rfl, hb_⟩; have cx2 : w2.cell? ⟨g1, off, none⟩ = some (.string x) := (blk_cell (blk_below BW.out hb_) off).trans HX.out; have q0 : w2.cell? ⟨g2, 0, none⟩ = some (.int .i64 op) := (blk_cell (blk_below BI.out hb_) 0).trans rfl; have q1 : w2.cell? ⟨g2, 1, none⟩ = some (.int .i64 va) := (blk_cell (blk_below BI.out hb_) 1).trans rfl; have q2 : w2.cell? ⟨g2, 2, none⟩ = some (.int .i64 vb) := (blk_cell (blk_below BI.out hb_) 2).trans rfl; have q3 : w2.cell? ⟨g2, 3, none⟩ = some (.int .i64 vc) := (blk_cell (blk_below BI.out hb_) 3).trans rfl; have q4 : w2.cell? ⟨g2, 4, none⟩ = some (.int .i64 0) := (blk_cell (blk_below BI.out hb_) 4).trans rfl; have z0 : w2.cell? ⟨g0, 0, none⟩ = some (.int .i64 0) := (blk_cell (blk_below BR.out hb_) 0).trans rfl; have y0 := blk_frozen (blk_below BR.out hb_) 0; have z1 : w2.cell? ⟨g0, 1, none⟩ = some (.int .i64 0) := (blk_cell (blk_below BR.out hb_) 1).trans rfl; have y1 := blk_frozen (blk_below BR.out hb_) 1; have z2 : w2.cell? ⟨g0, 2, none⟩ = some (.int .i64 0) := (blk_cell (blk_below BR.out hb_) 2).trans rfl; have y2 := blk_frozen (blk_below BR.out hb_) 2; have z3 : w2.cell? ⟨g0, 3, none⟩ = some (.int .i64 0) := (blk_cell (blk_below BR.out hb_) 3).trans rfl; have y3 := blk_frozen (blk_below BR.out hb_) 3; have z4 : w2.cell? ⟨g0, 4, none⟩ = some (.int .i64 0) := (blk_cell (blk_below BR.out hb_) 4).trans rfl; have y4 := blk_frozen (blk_below BR.out hb_) 4; have z5 : w2.cell? ⟨g0, 5, none⟩ = some (.int .i64 0) := (blk_cell (blk_below BR.out hb_) 5).trans rfl; have y5 := blk_frozen (blk_below BR.out hb_) 5; have z6 : w2.cell? ⟨g0, 6, none⟩ = some (.int .u32 0) := (blk_cell (blk_below BR.out hb_) 6).trans rfl; have y6 := blk_frozen (blk_below BR.out hb_) 6; have z7 : w2.cell? ⟨g0, 7, none⟩ = some (.string ⟨#[]⟩) := (blk_cell (blk_below BR.out hb_) 7).trans rfl; have y7 := blk_frozen (blk_below BR.out hb_) 7) | (go_at_call 62; (with_reducible refine (HBQ.out _).mono ?_); rintro e w' ⟨rfl, nd, rfl⟩) | (go_at_call 57; (with_reducible refine (HBL.out _).mono ?_); rintro e w' ⟨rfl, nd, rfl⟩))
           go_region
           go_wp2
           refine bodyPost_ret (v := .agg #[.int .i64 4, .int .i64 op, .int .i64 va, .int .i64 vb, .int .i64 vc, .int .i64 0, .int .u32 0, .string x]) ?hr ?he ?hf
           case he => rfl
           case hf => exact ⟨rfl, by (with_reducible repeat (first | exact below_step HB.out hb_ | refine below_set ?_ GZ.out | refine below_set ?_ GE.out | apply pw_below_drewN | apply below_drew1))⟩
           case hr =>
            dsimp only
            refine results_cell_row (p := 2) (ty := 64) ?h _ _ g0 64 _ (0, 0) _ ?hp ?hg hu33 ?hd ?hi
            case h => rfl
            case hp => rfl
            case hg => (with_reducible repeat (first | refine blk_drewN ?_ _ | refine blk_drew ?_)); refine blk_put (cs := #[.int .i64 4, .int .i64 op, .int .i64 va, .int .i64 vb, .int .i64 vc, .int .i64 0, .int .u32 0, .string ⟨#[]⟩]) ?_ 7 _ rfl; refine blk_put (cs := #[.int .i64 4, .int .i64 op, .int .i64 va, .int .i64 vb, .int .i64 vc, .int .i64 0, .int .u32 0, .string ⟨#[]⟩]) ?_ 6 _ rfl; refine blk_put (cs := #[.int .i64 4, .int .i64 op, .int .i64 va, .int .i64 vb, .int .i64 vc, .int .i64 0, .int .u32 0, .string ⟨#[]⟩]) ?_ 5 _ rfl; refine blk_put (cs := #[.int .i64 4, .int .i64 op, .int .i64 va, .int .i64 vb, .int .i64 0, .int .i64 0, .int .u32 0, .string ⟨#[]⟩]) ?_ 4 _ rfl; refine blk_put (cs := #[.int .i64 4, .int .i64 op, .int .i64 va, .int .i64 0, .int .i64 0, .int .i64 0, .int .u32 0, .string ⟨#[]⟩]) ?_ 3 _ rfl; refine blk_put (cs := #[.int .i64 4, .int .i64 op, .int .i64 0, .int .i64 0, .int .i64 0, .int .i64 0, .int .u32 0, .string ⟨#[]⟩]) ?_ 2 _ rfl; refine blk_put (cs := #[.int .i64 4, .int .i64 0, .int .i64 0, .int .i64 0, .int .i64 0, .int .i64 0, .int .u32 0, .string ⟨#[]⟩]) ?_ 1 _ rfl; refine blk_put (cs := #[.int .i64 0, .int .i64 0, .int .i64 0, .int .i64 0, .int .i64 0, .int .i64 0, .int .u32 0, .string ⟨#[]⟩]) ?_ 0 _ rfl; (with_reducible repeat (first | refine blk_drewN ?_ _ | refine blk_drew ?_)); exact blk_below BR.out hb_
            case hd => rfl
            case hi => kernel_rfl
        | true =>
         obtain ⟨m, hm, H1⟩ := Option.bind_eq_some_iff.1 H1
         have HIM := Lib.hid (fun W => impl_isImm.calls dn m W hm)
         clear hm
         cases m with
         | false =>
          replace H1 : impl_readLine.br k op va vb vc x = some (r1, r2, r3, r4, r5, r6, r7, r8) := H1
          obtain ⟨q, hq, H1⟩ := Option.bind_eq_some_iff.1 H1
          have HBQ := Lib.hid (fun W => impl_isBranch.calls op q W hq)
          clear hq
          cases q with
          | false =>
           replace H1 : some impl_readLine.nil_ = some (r1, r2, r3, r4, r5, r6, r7, r8) := H1; simp only [impl_readLine.nil_, Option.some.injEq, Prod.mk.injEq] at H1; obtain ⟨rfl, rfl, rfl, rfl, rfl, rfl, rfl, rfl⟩ := H1
           go_wp2_with (first | (go_at_call 58; refine (HDN.out _ (HT.out.below HB.out)).mono ?_; rintro e w2 ⟨rfl, hb_⟩; have cx2 : w2.cell? ⟨g1, off, none⟩ = some (.string x) := (blk_cell (blk_below BW.out hb_) off).trans HX.out; have q0 : w2.cell? ⟨g2, 0, none⟩ = some (.int .i64 op) := (blk_cell (blk_below BI.out hb_) 0).trans rfl; have q1 : w2.cell? ⟨g2, 1, none⟩ = some (.int .i64 va) := (blk_cell (blk_below BI.out hb_) 1).trans rfl; have q2 : w2.cell? ⟨g2, 2, none⟩ = some (.int .i64 vb) := (blk_cell (blk_below BI.out hb_) 2).trans rfl; have q3 : w2.cell? ⟨g2, 3, none⟩ = some (.int .i64 vc) := (blk_cell (blk_below BI.out hb_) 3).trans rfl; have q4 : w2.cell? ⟨g2, 4, none⟩ = some (.int .i64 0) := (blk_cell (blk_below BI.out hb_) 4).trans rfl; have z0 : w2.cell? ⟨g0, 0, none⟩ = some (.int .i64 0) := (blk_cell (blk_below BR.out hb_) 0).trans rfl; have y0 := blk_frozen (blk_below BR.out hb_) 0; have z1 : w2.cell? ⟨g0, 1, none⟩ = some (.int .i64 0) := (blk_cell (blk_below BR.out hb_) 1).trans rfl; have y1 := blk_frozen (blk_below BR.out hb_) 1; have z2 : w2.cell? ⟨g0, 2, none⟩ = some (.int .i64 0) := (blk_cell (blk_below BR.out hb_) 2).trans rfl; have y2 := blk_frozen (blk_below BR.out hb_) 2; have z3 : w2.cell? ⟨g0, 3, none⟩ = some (.int .i64 0) := (blk_cell (blk_below BR.out hb_) 3).trans rfl; have y3 := blk_frozen (blk_below BR.out hb_) 3; have z4 : w2.cell? ⟨g0, 4, none⟩ = some (.int .i64 0) := (blk_cell (blk_below BR.out hb_) 4).trans rfl; have y4 := blk_frozen (blk_below BR.out hb_) 4; have z5 : w2.cell? ⟨g0, 5, none⟩ = some (.int .i64 0) := (blk_cell (blk_below BR.out hb_) 5).trans rfl; have y5 := blk_frozen (blk_below BR.out hb_) 5; have z6 : w2.cell? ⟨g0, 6, none⟩ = some (.int .u32 0) := (blk_cell (blk_below BR.out hb_) 6).trans rfl; have y6 := blk_frozen (blk_below BR.out hb_) 6; have z7 : w2.cell? ⟨g0, 7, none⟩ = some (.string ⟨#[]⟩) := (blk_cell (blk_below BR.out hb_) 7).trans rfl; have y7 := blk_frozen (blk_below BR.out hb_) 7) | (go_at_call 44; (with_reducible refine (HIM.out _).mono ?_); rintro e w' ⟨rfl, nd, rfl⟩) | (go_at_call 62; (with_reducible refine (HBQ.out _).mono ?_); rintro e w' ⟨rfl, nd, rfl⟩))
           refine bodyPost_ret (v := .agg #[.int .i64 0, .int .i64 0, .int .i64 0, .int .i64 0, .int .i64 0, .int .i64 0, .int .u32 0, .string ⟨#[]⟩]) ?hr ?he ?hf
           case he => rfl
           case hf => exact ⟨rfl, by (with_reducible repeat (first | exact below_step HB.out hb_ | refine below_set ?_ GZ.out | refine below_set ?_ GE.out | apply pw_below_drewN | apply below_drew1))⟩
           case hr =>
            dsimp only
            refine results_cell_row (p := 2) (ty := 64) ?h _ _ g0 64 _ (0, 0) _ ?hp ?hg hu33 ?hd ?hi
            case h => rfl
            case hp => rfl
            case hg => (with_reducible repeat (first | refine blk_drewN ?_ _ | refine blk_drew ?_)); refine blk_put (cs := #[.int .i64 0, .int .i64 0, .int .i64 0, .int .i64 0, .int .i64 0, .int .i64 0, .int .u32 0, .string ⟨#[]⟩]) ?_ 7 _ rfl; refine blk_put (cs := #[.int .i64 0, .int .i64 0, .int .i64 0, .int .i64 0, .int .i64 0, .int .i64 0, .int .u32 0, .string ⟨#[]⟩]) ?_ 6 _ rfl; refine blk_put (cs := #[.int .i64 0, .int .i64 0, .int .i64 0, .int .i64 0, .int .i64 0, .int .i64 0, .int .u32 0, .string ⟨#[]⟩]) ?_ 5 _ rfl; refine blk_put (cs := #[.int .i64 0, .int .i64 0, .int .i64 0, .int .i64 0, .int .i64 0, .int .i64 0, .int .u32 0, .string ⟨#[]⟩]) ?_ 4 _ rfl; refine blk_put (cs := #[.int .i64 0, .int .i64 0, .int .i64 0, .int .i64 0, .int .i64 0, .int .i64 0, .int .u32 0, .string ⟨#[]⟩]) ?_ 3 _ rfl; refine blk_put (cs := #[.int .i64 0, .int .i64 0, .int .i64 0, .int .i64 0, .int .i64 0, .int .i64 0, .int .u32 0, .string ⟨#[]⟩]) ?_ 2 _ rfl; refine blk_put (cs := #[.int .i64 0, .int .i64 0, .int .i64 0, .int .i64 0, .int .i64 0, .int .i64 0, .int .u32 0, .string ⟨#[]⟩]) ?_ 1 _ rfl; refine blk_put (cs := #[.int .i64 0, .int .i64 0, .int .i64 0, .int .i64 0, .int .i64 0, .int .i64 0, .int .u32 0, .string ⟨#[]⟩]) ?_ 0 _ rfl; (with_reducible repeat (first | refine blk_drewN ?_ _ | refine blk_drew ?_)); exact blk_below BR.out hb_
            case hd => rfl
            case hi => kernel_rfl
          | true =>
           obtain ⟨l, hl, H1⟩ := Option.bind_eq_some_iff.1 H1
           have HBL := Lib.hid (fun W => impl_isLabel.calls k x l W hl)
           clear hl
           cases l with
           | false =>
            replace H1 : some impl_readLine.nil_ = some (r1, r2, r3, r4, r5, r6, r7, r8) := H1; simp only [impl_readLine.nil_, Option.some.injEq, Prod.mk.injEq] at H1; obtain ⟨rfl, rfl, rfl, rfl, rfl, rfl, rfl, rfl⟩ := H1
            go_wp2_with (first | (go_at_call 58; refine (HDN.out _ (HT.out.below HB.out)).mono ?_; rintro e w2 ⟨rfl, hb_⟩; have cx2 : w2.cell? ⟨g1, off, none⟩ = some (.string x) := (blk_cell (blk_below BW.out hb_) off).trans HX.out; have q0 : w2.cell? ⟨g2, 0, none⟩ = some (.int .i64 op) := (blk_cell (blk_below BI.out hb_) 0).trans rfl; have q1 : w2.cell? ⟨g2, 1, none⟩ = some (.int .i64 va) := (blk_cell (blk_below BI.out hb_) 1).trans rfl; have q2 : w2.cell? ⟨g2, 2, none⟩ = some (.int .i64 vb) := (blk_cell (blk_below BI.out hb_) 2).trans rfl; have q3 : w2.cell? ⟨g2, 3, none⟩ = some (.int .i64 vc) := (blk_cell (blk_below BI.out hb_) 3).trans rfl; have q4 : w2.cell? ⟨g2, 4, none⟩ = some (.int .i64 0) := (blk_cell (blk_below BI.out hb_) 4).trans rfl; have z0 : w2.cell? ⟨g0, 0, none⟩ = some (.int .i64 0) := (blk_cell (blk_below BR.out hb_) 0).trans rfl; have y0 := blk_frozen (blk_below BR.out hb_) 0; have z1 : w2.cell? ⟨g0, 1, none⟩ = some (.int .i64 0) := (blk_cell (blk_below BR.out hb_) 1).trans rfl; have y1 := blk_frozen (blk_below BR.out hb_) 1; have z2 : w2.cell? ⟨g0, 2, none⟩ = some (.int .i64 0) := (blk_cell (blk_below BR.out hb_) 2).trans rfl; have y2 := blk_frozen (blk_below BR.out hb_) 2; have z3 : w2.cell? ⟨g0, 3, none⟩ = some (.int .i64 0) := (blk_cell (blk_below BR.out hb_) 3).trans rfl; have y3 := blk_frozen (blk_below BR.out hb_) 3; have z4 : w2.cell? ⟨g0, 4, none⟩ = some (.int .i64 0) := (blk_cell (blk_below BR.out hb_) 4).trans rfl; have y4 := blk_frozen (blk_below BR.out hb_) 4; have z5 : w2.cell? ⟨g0, 5, none⟩ = some (.int .i64 0) := (blk_cell (blk_below BR.out hb_) 5).trans rfl; have y5 := blk_frozen (blk_below BR.out hb_) 5; have z6 : w2.cell? ⟨g0, 6, none⟩ = some (.int .u32 0) := (blk_cell (blk_below BR.out hb_) 6).trans rfl; have y6 := blk_frozen (blk_below BR.out hb_) 6; have z7 : w2.cell? ⟨g0, 7, none⟩ = some (.string ⟨#[]⟩) := (blk_cell (blk_below BR.out hb_) 7).trans rfl; have y7 := blk_frozen (blk_below BR.out hb_) 7) | (go_at_call 44; (with_reducible refine (HIM.out _).mono ?_); rintro e w' ⟨rfl, nd, rfl⟩) | (go_at_call 62; (with_reducible refine (HBQ.out _).mono ?_); rintro e w' ⟨rfl, nd, rfl⟩) | (go_at_call 57; (with_reducible refine (HBL.out _).mono ?_); rintro e w' ⟨rfl, nd, rfl⟩))
            refine bodyPost_ret (v := .agg #[.int .i64 0, .int .i64 0, .int .i64 0, .int .i64 0, .int .i64 0, .int .i64 0, .int .u32 0, .string ⟨#[]⟩]) ?hr ?he ?hf
            case he => rfl
            case hf => exact ⟨rfl, by (with_reducible repeat (first | exact below_step HB.out hb_ | refine below_set ?_ GZ.out | refine below_set ?_ GE.out | apply pw_below_drewN | apply below_drew1))⟩
            case hr =>
             dsimp only
             refine results_cell_row (p := 2) (ty := 64) ?h _ _ g0 64 _ (0, 0) _ ?hp ?hg hu33 ?hd ?hi
             case h => rfl
             case hp => rfl
             case hg => (with_reducible repeat (first | refine blk_drewN ?_ _ | refine blk_drew ?_)); refine blk_put (cs := #[.int .i64 0, .int .i64 0, .int .i64 0, .int .i64 0, .int .i64 0, .int .i64 0, .int .u32 0, .string ⟨#[]⟩]) ?_ 7 _ rfl; refine blk_put (cs := #[.int .i64 0, .int .i64 0, .int .i64 0, .int .i64 0, .int .i64 0, .int .i64 0, .int .u32 0, .string ⟨#[]⟩]) ?_ 6 _ rfl; refine blk_put (cs := #[.int .i64 0, .int .i64 0, .int .i64 0, .int .i64 0, .int .i64 0, .int .i64 0, .int .u32 0, .string ⟨#[]⟩]) ?_ 5 _ rfl; refine blk_put (cs := #[.int .i64 0, .int .i64 0, .int .i64 0, .int .i64 0, .int .i64 0, .int .i64 0, .int .u32 0, .string ⟨#[]⟩]) ?_ 4 _ rfl; refine blk_put (cs := #[.int .i64 0, .int .i64 0, .int .i64 0, .int .i64 0, .int .i64 0, .int .i64 0, .int .u32 0, .string ⟨#[]⟩]) ?_ 3 _ rfl; refine blk_put (cs := #[.int .i64 0, .int .i64 0, .int .i64 0, .int .i64 0, .int .i64 0, .int .i64 0, .int .u32 0, .string ⟨#[]⟩]) ?_ 2 _ rfl; refine blk_put (cs := #[.int .i64 0, .int .i64 0, .int .i64 0, .int .i64 0, .int .i64 0, .int .i64 0, .int .u32 0, .string ⟨#[]⟩]) ?_ 1 _ rfl; refine blk_put (cs := #[.int .i64 0, .int .i64 0, .int .i64 0, .int .i64 0, .int .i64 0, .int .i64 0, .int .u32 0, .string ⟨#[]⟩]) ?_ 0 _ rfl; (with_reducible repeat (first | refine blk_drewN ?_ _ | refine blk_drew ?_)); exact blk_below BR.out hb_
             case hd => rfl
             case hi => kernel_rfl
           | true =>
            replace H1 : some ((4 : Int), op, va, vb, vc, (0 : Int), (0 : Int), x) = some (r1, r2, r3, r4, r5, r6, r7, r8) := H1; simp only [impl_readLine.nil_, Option.some.injEq, Prod.mk.injEq] at H1; obtain ⟨rfl, rfl, rfl, rfl, rfl, rfl, rfl, rfl⟩ := H1
            go_wp2_with (first | (go_at_call 58; refine (HDN.out _ (HT.out.below HB.out)).mono ?_; rintro e w2 ⟨rfl, hb_⟩; have cx2 : w2.cell? ⟨g1, off, none⟩ = some (.string x) := (blk_cell (blk_below BW.out hb_) off).trans HX.out; have q0 : w2.cell? ⟨g2, 0, none⟩ = some (.int .i64 op) := (blk_cell (blk_below BI.out hb_) 0).trans rfl; have q1 : w2.cell? ⟨g2, 1, none⟩ = some (.int .i64 va) := (blk_cell (blk_below BI.out hb_) 1).trans rfl; have q2 : w2.cell? ⟨g2, 2, none⟩ = some (.int .i64 vb) := (blk_cell (blk_below BI.out hb_) 2).trans rfl; have q3 : w2.cell? ⟨g2, 3, none⟩ = some (.int .i64 vc) := (blk_cell (blk_below BI.out hb_) 3).trans rfl; have q4 : w2.cell? ⟨g2, 4, none⟩ = some (.int .i64 0) := (blk_cell (blk_below BI.out hb_) 4).trans rfl; have z0 : w2.cell? ⟨g0, 0, none⟩ = some (.int .i64 0) := (blk_cell (blk_below BR.out hb_) 0).trans rfl; have y0 := blk_frozen (blk_below BR.out hb_) 0; have z1 : w2.cell? ⟨g0, 1, none⟩ = some (.int .i64 0) := (blk_cell (blk_below BR.out hb_) 1).trans rfl; have y1 := blk_frozen (blk_below BR.out hb_) 1; have z2 : w2.cell? ⟨g0, 2, none⟩ = some (.int .i64 0) := (blk_cell (blk_below BR.out hb_) 2).trans rfl; have y2 := blk_frozen (blk_below BR.out hb_) 2; have z3 : w2.cell? ⟨g0, 3, none⟩ = some (.int .i64 0) := (blk_cell (blk_below BR.out hb_) 3).trans rfl; have y3 := blk_frozen (blk_below BR.out hb_) 3; have z4 : w2.cell? ⟨g0, 4, none⟩ = some (.int .i64 0) := (blk_cell (blk_below BR.out hb_) 4).trans rfl; have y4 := blk_frozen (blk_below BR.out hb_) 4; have z5 : w2.cell? ⟨g0, 5, none⟩ = some (.int .i64 0) := (blk_cell (blk_below BR.out hb_) 5).trans rfl; have y5 := blk_frozen (blk_below BR.out hb_) 5; have z6 : w2.cell? ⟨g0, 6, none⟩ = some (.int .u32 0) := (blk_cell (blk_below BR.out hb_) 6).trans rfl; have y6 := blk_frozen (blk_below BR.out hb_) 6; have z7 : w2.cell? ⟨g0, 7, none⟩ = some (.string ⟨#[]⟩) := (blk_cell (blk_below BR.out hb_) 7).trans rfl; have y7 := blk_frozen (blk_below BR.out hb_) 7) | (go_at_call 44; (with_reducible refine (HIM.out _).mono ?_); rintro e w' ⟨rfl, nd, rfl⟩) | (go_at_call 62; (with_reducible refine (HBQ.out _).mono ?_); rintro e w' ⟨rfl, nd, rfl⟩) | (go_at_call 57; (with_reducible refine (HBL.out _).mono ?_); rintro e w' ⟨rfl, nd, rfl⟩))
            go_region
            go_wp2
            refine bodyPost_ret (v := .agg #[.int .i64 4, .int .i64 op, .int .i64 va, .int .i64 vb, .int .i64 vc, .int .i64 0, .int .u32 0, .string x]) ?hr ?he ?hf
            case he => rfl
            case hf => exact ⟨rfl, by (with_reducible repeat (first | exact below_step HB.out hb_ | refine below_set ?_ GZ.out | refine below_set ?_ GE.out | apply pw_below_drewN | apply below_drew1))⟩
            case hr =>
             dsimp only
             refine results_cell_row (p := 2) (ty := 64) ?h _ _ g0 64 _ (0, 0) _ ?hp ?hg hu33 ?hd ?hi
             case h => rfl
             case hp => rfl
             case hg => (with_reducible repeat (first | refine blk_drewN ?_ _ | refine blk_drew ?_)); refine blk_put (cs := #[.int .i64 4, .int .i64 op, .int .i64 va, .int .i64 vb, .int .i64 vc, .int .i64 0, .int .u32 0, .string ⟨#[]⟩]) ?_ 7 _ rfl; refine blk_put (cs := #[.int .i64 4, .int .i64 op, .int .i64 va, .int .i64 vb, .int .i64 vc, .int .i64 0, .int .u32 0, .string ⟨#[]⟩]) ?_ 6 _ rfl; refine blk_put (cs := #[.int .i64 4, .int .i64 op, .int .i64 va, .int .i64 vb, .int .i64 vc, .int .i64 0, .int .u32 0, .string ⟨#[]⟩]) ?_ 5 _ rfl; refine blk_put (cs := #[.int .i64 4, .int .i64 op, .int .i64 va, .int .i64 vb, .int .i64 0, .int .i64 0, .int .u32 0, .string ⟨#[]⟩]) ?_ 4 _ rfl; refine blk_put (cs := #[.int .i64 4, .int .i64 op, .int .i64 va, .int .i64 0, .int .i64 0, .int .i64 0, .int .u32 0, .string ⟨#[]⟩]) ?_ 3 _ rfl; refine blk_put (cs := #[.int .i64 4, .int .i64 op, .int .i64 0, .int .i64 0, .int .i64 0, .int .i64 0, .int .u32 0, .string ⟨#[]⟩]) ?_ 2 _ rfl; refine blk_put (cs := #[.int .i64 4, .int .i64 0, .int .i64 0, .int .i64 0, .int .i64 0, .int .i64 0, .int .u32 0, .string ⟨#[]⟩]) ?_ 1 _ rfl; refine blk_put (cs := #[.int .i64 0, .int .i64 0, .int .i64 0, .int .i64 0, .int .i64 0, .int .i64 0, .int .u32 0, .string ⟨#[]⟩]) ?_ 0 _ rfl; (with_reducible repeat (first | refine blk_drewN ?_ _ | refine blk_drew ?_)); exact blk_below BR.out hb_
             case hd => rfl
             case hi => kernel_rfl
         | true =>
          replace H1 : some ((3 : Int), op, va, vb, vc, dn, (0 : Int), (⟨#[]⟩ : ByteArray)) = some (r1, r2, r3, r4, r5, r6, r7, r8) := H1; simp only [impl_readLine.nil_, Option.some.injEq, Prod.mk.injEq] at H1; obtain ⟨rfl, rfl, rfl, rfl, rfl, rfl, rfl, rfl⟩ := H1
          go_wp2_with (first | (go_at_call 58; refine (HDN.out _ (HT.out.below HB.out)).mono ?_; rintro e w2 ⟨rfl, hb_⟩; have cx2 : w2.cell? ⟨g1, off, none⟩ = some (.string x) := (blk_cell (blk_below BW.out hb_) off).trans HX.out; have q0 : w2.cell? ⟨g2, 0, none⟩ = some (.int .i64 op) := (blk_cell (blk_below BI.out hb_) 0).trans rfl; have q1 : w2.cell? ⟨g2, 1, none⟩ = some (.int .i64 va) := (blk_cell (blk_below BI.out hb_) 1).trans rfl; have q2 : w2.cell? ⟨g2, 2, none⟩ = some (.int .i64 vb) := (blk_cell (blk_below BI.out hb_) 2).trans rfl; have q3 : w2.cell? ⟨g2, 3, none⟩ = some (.int .i64 vc) := (blk_cell (blk_below BI.out hb_) 3).trans rfl; have q4 : w2.cell? ⟨g2, 4, none⟩ = some (.int .i64 0) := (blk_cell (blk_below BI.out hb_) 4).trans rfl; have z0 : w2.cell? ⟨g0, 0, none⟩ = some (.int .i64 0) := (blk_cell (blk_below BR.out hb_) 0).trans rfl; have y0 := blk_frozen (blk_below BR.out hb_) 0; have z1 : w2.cell? ⟨g0, 1, none⟩ = some (.int .i64 0) := (blk_cell (blk_below BR.out hb_) 1).trans rfl; have y1 := blk_frozen (blk_below BR.out hb_) 1; have z2 : w2.cell? ⟨g0, 2, none⟩ = some (.int .i64 0) := (blk_cell (blk_below BR.out hb_) 2).trans rfl; have y2 := blk_frozen (blk_below BR.out hb_) 2; have z3 : w2.cell? ⟨g0, 3, none⟩ = some (.int .i64 0) := (blk_cell (blk_below BR.out hb_) 3).trans rfl; have y3 := blk_frozen (blk_below BR.out hb_) 3; have z4 : w2.cell? ⟨g0, 4, none⟩ = some (.int .i64 0) := (blk_cell (blk_below BR.out hb_) 4).trans rfl; have y4 := blk_frozen (blk_below BR.out hb_) 4; have z5 : w2.cell? ⟨g0, 5, none⟩ = some (.int .i64 0) := (blk_cell (blk_below BR.out hb_) 5).trans rfl; have y5 := blk_frozen (blk_below BR.out hb_) 5; have z6 : w2.cell? ⟨g0, 6, none⟩ = some (.int .u32 0) := (blk_cell (blk_below BR.out hb_) 6).trans rfl; have y6 := blk_frozen (blk_below BR.out hb_) 6; have z7 : w2.cell? ⟨g0, 7, none⟩ = some (.string ⟨#[]⟩) := (blk_cell (blk_below BR.out hb_) 7).trans rfl; have y7 := blk_frozen (blk_below BR.out hb_) 7; have y8 := blk_frozen (blk_below BI.out hb_) 4; have nb1 : g2 ≠ g0 := N1.out; have nb2 : g0 ≠ g2 := fun h => N1.out h.symm; have nb3 : g2 ≠ g1 := N2.out; have nb4 : g1 ≠ g2 := fun h => N2.out h.symm) | (go_at_call 44; (with_reducible refine (HIM.out _).mono ?_); rintro e w' ⟨rfl, nd, rfl⟩))
          refine bodyPost_ret (v := .agg #[.int .i64 3, .int .i64 op, .int .i64 va, .int .i64 vb, .int .i64 vc, .int .i64 dn, .int .u32 0, .string ⟨#[]⟩]) ?hr ?he ?hf
          case he => rfl
          case hf => exact ⟨rfl, by (with_reducible repeat (first | exact below_step HB.out hb_ | refine below_set ?_ GZ.out | refine below_set ?_ GE.out | apply pw_below_drewN | apply below_drew1))⟩
          case hr =>
           dsimp only
           refine results_cell_row (p := 2) (ty := 64) ?h _ _ g0 64 _ (0, 0) _ ?hp ?hg hu33 ?hd ?hi
           case h => rfl
           case hp => rfl
           case hg => (with_reducible repeat (first | refine blk_drewN ?_ _ | refine blk_drew ?_)); refine blk_put (cs := #[.int .i64 3, .int .i64 op, .int .i64 va, .int .i64 vb, .int .i64 vc, .int .i64 dn, .int .u32 0, .string ⟨#[]⟩]) ?_ 7 _ rfl; refine blk_put (cs := #[.int .i64 3, .int .i64 op, .int .i64 va, .int .i64 vb, .int .i64 vc, .int .i64 dn, .int .u32 0, .string ⟨#[]⟩]) ?_ 6 _ rfl; refine blk_put (cs := #[.int .i64 3, .int .i64 op, .int .i64 va, .int .i64 vb, .int .i64 vc, .int .i64 0, .int .u32 0, .string ⟨#[]⟩]) ?_ 5 _ rfl; refine blk_put (cs := #[.int .i64 3, .int .i64 op, .int .i64 va, .int .i64 vb, .int .i64 0, .int .i64 0, .int .u32 0, .string ⟨#[]⟩]) ?_ 4 _ rfl; refine blk_put (cs := #[.int .i64 3, .int .i64 op, .int .i64 va, .int .i64 0, .int .i64 0, .int .i64 0, .int .u32 0, .string ⟨#[]⟩]) ?_ 3 _ rfl; refine blk_put (cs := #[.int .i64 3, .int .i64 op, .int .i64 0, .int .i64 0, .int .i64 0, .int .i64 0, .int .u32 0, .string ⟨#[]⟩]) ?_ 2 _ rfl; refine blk_put (cs := #[.int .i64 3, .int .i64 0, .int .i64 0, .int .i64 0, .int .i64 0, .int .i64 0, .int .u32 0, .string ⟨#[]⟩]) ?_ 1 _ rfl; refine blk_put (cs := #[.int .i64 0, .int .i64 0, .int .i64 0, .int .i64 0, .int .i64 0, .int .i64 0, .int .u32 0, .string ⟨#[]⟩]) ?_ 0 _ rfl; (with_reducible repeat (first | refine blk_drewN ?_ _ | refine blk_drew ?_)); refine blk_far ?_ (fun h => N1.out h.symm) _; (with_reducible repeat (first | refine blk_drewN ?_ _ | refine blk_drew ?_)); exact blk_below BR.out hb_
           case hd => rfl
           case hi => kernel_rfl
set_option maxHeartbeats 16000000 in
set_option maxRecDepth 100000 in
theorem impl_readLine.label (k : Nat) (a0 : ByteArray) (hs : a0.size ≤ 80) (w0 : ByteArray) (wt : List ByteArray) (hws : impl_readLine.ws a0 = w0 :: wt) (sb : Bool) (hsb : impl_readLine.sx w0 = sb) (hnl : wt = []) (hbt : sb = true) (hl : impl_isLabel.f k (impl_readLine.nm w0) = some true) (r1 : Int) (r2 : Int) (r3 : Int) (r4 : Int) (r5 : Int) (r6 : Int) (r7 : Int) (r8 : ByteArray) (w : World) (HT : Aside0 (Tab.TabsODEM w)) (H : some ((1 : Int), (0 : Int), (0 : Int), (0 : Int), (0 : Int), (0 : Int), (0 : Int), impl_readLine.nm w0) = some (r1, r2, r3, r4, r5, r6, r7, r8)) :
 Calls Tryz.prog 32 #[.string a0] w fun e w' => e = .returned (.agg #[.int .i64 r1, .int .i64 r2, .int .i64 r3, .int .i64 r4, .int .i64 r5, .int .i64 r6, .int .u32 r7, .string r8]) ∧ Below w.heap.size w w' := by
 have hu33 := Tryz.underlying64
 have HSP := Lib.hid (impl_readLine.split a0 hs)
 have hmem := impl_readLine.words_size a0 hs
 rw [hws] at HSP hmem
 have HCU := Lib.hid (impl_readLine.cut w0 (hmem w0 (by simp)))
 rw [hsb] at HCU
 clear hmem hs hws hsb
 go_enter Tryz.func32, Tryz.ntmps32
 have HB0 := Aside0.mk (Below.refl w.heap.size w)
 go_wp2_with (first | ((with_reducible refine gate_dst (N := 2) rfl ?_); refine box_event ?hg (N := 2) ?hd (cs := #[.int .i64 0, .int .i64 0, .int .i64 0, .int .i64 0, .int .i64 0, .int .i64 0, .int .u32 0, .string ⟨#[]⟩]) (t := 64) ?hr ?_; (case hd => rfl); (case hg => rfl); (case hr => first | (go_simp; done) | (go_simp; rfl)); intro g0 hg w0_ hbox hb; revert hbox hb hg))
 intro hg0 hbox hb0
 have GZ := Aside0.mk (show w.heap.size ≤ g0 by omega)
 have HB1 := Aside0.mk (below_step HB0.out hb0)
 have BR0 := Aside0.mk hbox
 clear hg0 hbox hb0 HB0
 go_wp2_with fail
 refine (HSP.out _ (HT.out.below HB1.out)).mono ?_
 rintro e w1 ⟨g1, rfl, hg1, hl1, hb1⟩
 have lt0_ : g0 < w0_.heap.size := blk_lt BR0.out
 have BR := Aside0.mk (blk_below BR0.out hb1)
 have BW := Aside0.mk hg1
 have HB := Aside0.mk (below_step HB1.out hb1)
 have NE := Aside0.mk (show g1 ≠ g0 by omega)
 clear BR0 HB1 lt0_
 have c0 : w1.cell? ⟨g1, 0, none⟩ = some (.string w0) := (blk_cell BW.out 0).trans rfl
 clear hg1 hl1 hb1
 simp only [Option.some.injEq, Prod.mk.injEq] at H; obtain ⟨rfl, rfl, rfl, rfl, rfl, rfl, rfl, rfl⟩ := H
 subst hnl; subst hbt
 have HLB := Lib.hid (fun W => impl_isLabel.calls k (impl_readLine.nm w0) true W hl)
 clear hl
 have z0 : w1.cell? ⟨g0, 0, none⟩ = some (.int .i64 0) := (blk_cell BR.out 0).trans rfl
 have y0 := blk_frozen BR.out 0
 have z1 : w1.cell? ⟨g0, 1, none⟩ = some (.int .i64 0) := (blk_cell BR.out 1).trans rfl
 have y1 := blk_frozen BR.out 1
 have z2 : w1.cell? ⟨g0, 2, none⟩ = some (.int .i64 0) := (blk_cell BR.out 2).trans rfl
 have y2 := blk_frozen BR.out 2
 have z3 : w1.cell? ⟨g0, 3, none⟩ = some (.int .i64 0) := (blk_cell BR.out 3).trans rfl
 have y3 := blk_frozen BR.out 3
 have z4 : w1.cell? ⟨g0, 4, none⟩ = some (.int .i64 0) := (blk_cell BR.out 4).trans rfl
 have y4 := blk_frozen BR.out 4
 have z5 : w1.cell? ⟨g0, 5, none⟩ = some (.int .i64 0) := (blk_cell BR.out 5).trans rfl
 have y5 := blk_frozen BR.out 5
 have z6 : w1.cell? ⟨g0, 6, none⟩ = some (.int .u32 0) := (blk_cell BR.out 6).trans rfl
 have y6 := blk_frozen BR.out 6
 have z7 : w1.cell? ⟨g0, 7, none⟩ = some (.string ⟨#[]⟩) := (blk_cell BR.out 7).trans rfl
 have y7 := blk_frozen BR.out 7
 go_wp2_with (first | ((with_reducible refine (HCU.out _).mono ?_); rintro e w' ⟨rfl, rfl⟩) | ((with_reducible refine (HLB.out _).mono ?_); rintro e w' ⟨rfl, nd, rfl⟩))
 refine bodyPost_ret (v := .agg #[.int .i64 1, .int .i64 0, .int .i64 0, .int .i64 0, .int .i64 0, .int .i64 0, .int .u32 0, .string (impl_readLine.nm w0)]) ?hr ?he ?hf
 case he => rfl
 case hf => exact ⟨rfl, by (with_reducible repeat (first | exact HB.out | exact hb_ | refine below_set ?_ GZ.out | refine below_set ?_ GE.out | apply below_alloc | apply pw_below_drewN | apply below_drew1))⟩
 case hr =>
  dsimp only
  refine results_cell_row (p := 2) (ty := 64) ?h _ _ g0 64 _ (0, 0) _ ?hp ?hg hu33 ?hd ?hi
  case h => rfl
  case hp => rfl
  case hg => (with_reducible repeat (first | refine blk_drewN ?_ _ | refine blk_drew ?_)); refine blk_put (cs := #[.int .i64 1, .int .i64 0, .int .i64 0, .int .i64 0, .int .i64 0, .int .i64 0, .int .u32 0, .string ⟨#[]⟩]) ?_ 7 _ rfl; refine blk_put (cs := #[.int .i64 1, .int .i64 0, .int .i64 0, .int .i64 0, .int .i64 0, .int .i64 0, .int .u32 0, .string ⟨#[]⟩]) ?_ 6 _ rfl; refine blk_put (cs := #[.int .i64 1, .int .i64 0, .int .i64 0, .int .i64 0, .int .i64 0, .int .i64 0, .int .u32 0, .string ⟨#[]⟩]) ?_ 5 _ rfl; refine blk_put (cs := #[.int .i64 1, .int .i64 0, .int .i64 0, .int .i64 0, .int .i64 0, .int .i64 0, .int .u32 0, .string ⟨#[]⟩]) ?_ 4 _ rfl; refine blk_put (cs := #[.int .i64 1, .int .i64 0, .int .i64 0, .int .i64 0, .int .i64 0, .int .i64 0, .int .u32 0, .string ⟨#[]⟩]) ?_ 3 _ rfl; refine blk_put (cs := #[.int .i64 1, .int .i64 0, .int .i64 0, .int .i64 0, .int .i64 0, .int .i64 0, .int .u32 0, .string ⟨#[]⟩]) ?_ 2 _ rfl; refine blk_put (cs := #[.int .i64 1, .int .i64 0, .int .i64 0, .int .i64 0, .int .i64 0, .int .i64 0, .int .u32 0, .string ⟨#[]⟩]) ?_ 1 _ rfl; refine blk_put (cs := #[.int .i64 0, .int .i64 0, .int .i64 0, .int .i64 0, .int .i64 0, .int .i64 0, .int .u32 0, .string ⟨#[]⟩]) ?_ 0 _ rfl; exact BR.out
  case hd => rfl
  case hi => kernel_rfl
set_option maxHeartbeats 16000000 in
set_option maxRecDepth 100000 in
theorem impl_readLine.word (k : Nat) (a0 : ByteArray) (hs : a0.size ≤ 80) (w0 : ByteArray) (wt : List ByteArray) (hws : impl_readLine.ws a0 = w0 :: wt) (sb : Bool) (hsb : impl_readLine.sx w0 = sb) (HNL : Hid (impl_readLine.NoLabel k w0 wt sb)) (hdot : (w0.toList == ([46, 119, 111, 114, 100] : List UInt8)) = true) (r1 : Int) (r2 : Int) (r3 : Int) (r4 : Int) (r5 : Int) (r6 : Int) (r7 : Int) (r8 : ByteArray) (w : World) (HT : Aside0 (Tab.TabsODEM w)) (H : Aside0 (impl_readLine.wd wt = some (r1, r2, r3, r4, r5, r6, r7, r8))) :
 Calls Tryz.prog 32 #[.string a0] w fun e w' => e = .returned (.agg #[.int .i64 r1, .int .i64 r2, .int .i64 r3, .int .i64 r4, .int .i64 r5, .int .i64 r6, .int .u32 r7, .string r8]) ∧ Below w.heap.size w w' := by
 have hu33 := Tryz.underlying64
 have HSP := Lib.hid (impl_readLine.split a0 hs)
 have hmem := impl_readLine.words_size a0 hs
 rw [hws] at HSP hmem
 have HCU := Lib.hid (impl_readLine.cut w0 (hmem w0 (by simp)))
 rw [hsb] at HCU
 clear hmem hs hws hsb
 go_enter Tryz.func32, Tryz.ntmps32
 have HB0 := Aside0.mk (Below.refl w.heap.size w)
 go_wp2_with (first | ((with_reducible refine gate_dst (N := 2) rfl ?_); refine box_event ?hg (N := 2) ?hd (cs := #[.int .i64 0, .int .i64 0, .int .i64 0, .int .i64 0, .int .i64 0, .int .i64 0, .int .u32 0, .string ⟨#[]⟩]) (t := 64) ?hr ?_; (case hd => rfl); (case hg => rfl); (case hr => first | (go_simp; done) | (go_simp; rfl)); intro g0 hg w0_ hbox hb; revert hbox hb hg))
 intro hg0 hbox hb0
 have GZ := Aside0.mk (show w.heap.size ≤ g0 by omega)
 have HB1 := Aside0.mk (below_step HB0.out hb0)
 have BR0 := Aside0.mk hbox
 clear hg0 hbox hb0 HB0
 go_wp2_with fail
 refine (HSP.out _ (HT.out.below HB1.out)).mono ?_
 rintro e w1 ⟨g1, rfl, hg1, hl1, hb1⟩
 have lt0_ : g0 < w0_.heap.size := blk_lt BR0.out
 have BR := Aside0.mk (blk_below BR0.out hb1)
 have BW := Aside0.mk hg1
 have HB := Aside0.mk (below_step HB1.out hb1)
 have NE := Aside0.mk (show g1 ≠ g0 by omega)
 clear BR0 HB1 lt0_
 have c0 : w1.cell? ⟨g1, 0, none⟩ = some (.string w0) := (blk_cell BW.out 0).trans rfl
 clear hg1 hl1 hb1
 go_upto_region 3 with (first | ((with_reducible refine (HCU.out _).mono ?_); rintro e w' ⟨rfl, rfl⟩))
 go_cut [34] from 16 (fun v34 wd => v34 = .bool false ∧ Aside0 (wd.heap[g0]? = some (.cells #[.int .i64 0, .int .i64 0, .int .i64 0, .int .i64 0, .int .i64 0, .int .i64 0, .int .u32 0, .string ⟨#[]⟩] 64 (0, 0))) ∧ Aside0 (wd.heap[g1]? = some (.cells ((w0 :: wt).map Value.string).toArray 9 (0, 0))) ∧ Aside0 (Below w.heap.size w wd))
 case first =>
  rcases HNL.out with rfl | ⟨rfl, hne⟩ | ⟨rfl, rfl, hl⟩
  · go_wp2
    go_meet
    case rel => exact ⟨rfl, BR, BW, HB⟩
  · have l1 : (((wt.length + 1 : Nat) : Int) == 1) = false := by
     have := List.length_pos_iff.2 hne
     simp; omega
    have l2 : ((wt.length : Int) + 1 == 1) = false := by
     have := List.length_pos_iff.2 hne
     simp; omega
    go_wp2
    go_meet
    case rel => exact ⟨rfl, BR, BW, HB⟩
  · have HLB := Lib.hid (fun W => impl_isLabel.calls k (impl_readLine.nm w0) false W hl)
    clear hl
    go_wp2_with ((with_reducible refine (HLB.out _).mono ?_); rintro e w' ⟨rfl, nd, rfl⟩)
    go_meet
    case rel => exact ⟨rfl, ⟨blk_drewN BR.out _⟩, ⟨blk_drewN BW.out _⟩, ⟨pw_below_drewN HB.out _⟩⟩
 clear BR BW HB c0
 obtain ⟨rfl, BR, BW, HB⟩ := hcut
 have c0 : wc.cell? ⟨g1, 0, none⟩ = some (.string w0) := (blk_cell BW.out 0).trans rfl
 clear HNL
 rename World => w'
 cases wt with
 | nil =>
  have H1 : some impl_readLine.nil_ = some (r1, r2, r3, r4, r5, r6, r7, r8) := H.out
  simp only [impl_readLine.nil_, Option.some.injEq, Prod.mk.injEq] at H1; obtain ⟨rfl, rfl, rfl, rfl, rfl, rfl, rfl, rfl⟩ := H1
  have z0 : w'.cell? ⟨g0, 0, none⟩ = some (.int .i64 0) := (blk_cell BR.out 0).trans rfl
  have y0 := blk_frozen BR.out 0
  have z1 : w'.cell? ⟨g0, 1, none⟩ = some (.int .i64 0) := (blk_cell BR.out 1).trans rfl
  have y1 := blk_frozen BR.out 1
  have z2 : w'.cell? ⟨g0, 2, none⟩ = some (.int .i64 0) := (blk_cell BR.out 2).trans rfl
  have y2 := blk_frozen BR.out 2
  have z3 : w'.cell? ⟨g0, 3, none⟩ = some (.int .i64 0) := (blk_cell BR.out 3).trans rfl
  have y3 := blk_frozen BR.out 3
  have z4 : w'.cell? ⟨g0, 4, none⟩ = some (.int .i64 0) := (blk_cell BR.out 4).trans rfl
  have y4 := blk_frozen BR.out 4
  have z5 : w'.cell? ⟨g0, 5, none⟩ = some (.int .i64 0) := (blk_cell BR.out 5).trans rfl
  have y5 := blk_frozen BR.out 5
  have z6 : w'.cell? ⟨g0, 6, none⟩ = some (.int .u32 0) := (blk_cell BR.out 6).trans rfl
  have y6 := blk_frozen BR.out 6
  have z7 : w'.cell? ⟨g0, 7, none⟩ = some (.string ⟨#[]⟩) := (blk_cell BR.out 7).trans rfl
  have y7 := blk_frozen BR.out 7
  go_wp2
  refine bodyPost_ret (v := .agg #[.int .i64 0, .int .i64 0, .int .i64 0, .int .i64 0, .int .i64 0, .int .i64 0, .int .u32 0, .string ⟨#[]⟩]) ?hr ?he ?hf
  case he => rfl
  case hf => exact ⟨rfl, by (with_reducible repeat (first | exact HB.out | exact hb_ | refine below_set ?_ GZ.out | refine below_set ?_ GE.out | apply below_alloc | apply pw_below_drewN | apply below_drew1))⟩
  case hr =>
   dsimp only
   refine results_cell_row (p := 2) (ty := 64) ?h _ _ g0 64 _ (0, 0) _ ?hp ?hg hu33 ?hd ?hi
   case h => rfl
   case hp => rfl
   case hg => (with_reducible repeat (first | refine blk_drewN ?_ _ | refine blk_drew ?_)); refine blk_put (cs := #[.int .i64 0, .int .i64 0, .int .i64 0, .int .i64 0, .int .i64 0, .int .i64 0, .int .u32 0, .string ⟨#[]⟩]) ?_ 7 _ rfl; refine blk_put (cs := #[.int .i64 0, .int .i64 0, .int .i64 0, .int .i64 0, .int .i64 0, .int .i64 0, .int .u32 0, .string ⟨#[]⟩]) ?_ 6 _ rfl; refine blk_put (cs := #[.int .i64 0, .int .i64 0, .int .i64 0, .int .i64 0, .int .i64 0, .int .i64 0, .int .u32 0, .string ⟨#[]⟩]) ?_ 5 _ rfl; refine blk_put (cs := #[.int .i64 0, .int .i64 0, .int .i64 0, .int .i64 0, .int .i64 0, .int .i64 0, .int .u32 0, .string ⟨#[]⟩]) ?_ 4 _ rfl; refine blk_put (cs := #[.int .i64 0, .int .i64 0, .int .i64 0, .int .i64 0, .int .i64 0, .int .i64 0, .int .u32 0, .string ⟨#[]⟩]) ?_ 3 _ rfl; refine blk_put (cs := #[.int .i64 0, .int .i64 0, .int .i64 0, .int .i64 0, .int .i64 0, .int .i64 0, .int .u32 0, .string ⟨#[]⟩]) ?_ 2 _ rfl; refine blk_put (cs := #[.int .i64 0, .int .i64 0, .int .i64 0, .int .i64 0, .int .i64 0, .int .i64 0, .int .u32 0, .string ⟨#[]⟩]) ?_ 1 _ rfl; refine blk_put (cs := #[.int .i64 0, .int .i64 0, .int .i64 0, .int .i64 0, .int .i64 0, .int .i64 0, .int .u32 0, .string ⟨#[]⟩]) ?_ 0 _ rfl; exact BR.out
   case hd => rfl
   case hi => kernel_rfl
 | cons x t =>
  cases t with
  | cons x2 t =>
   have H1 : some impl_readLine.nil_ = some (r1, r2, r3, r4, r5, r6, r7, r8) := H.out
   simp only [impl_readLine.nil_, Option.some.injEq, Prod.mk.injEq] at H1; obtain ⟨rfl, rfl, rfl, rfl, rfl, rfl, rfl, rfl⟩ := H1
   have z0 : w'.cell? ⟨g0, 0, none⟩ = some (.int .i64 0) := (blk_cell BR.out 0).trans rfl
   have y0 := blk_frozen BR.out 0
   have z1 : w'.cell? ⟨g0, 1, none⟩ = some (.int .i64 0) := (blk_cell BR.out 1).trans rfl
   have y1 := blk_frozen BR.out 1
   have z2 : w'.cell? ⟨g0, 2, none⟩ = some (.int .i64 0) := (blk_cell BR.out 2).trans rfl
   have y2 := blk_frozen BR.out 2
   have z3 : w'.cell? ⟨g0, 3, none⟩ = some (.int .i64 0) := (blk_cell BR.out 3).trans rfl
   have y3 := blk_frozen BR.out 3
   have z4 : w'.cell? ⟨g0, 4, none⟩ = some (.int .i64 0) := (blk_cell BR.out 4).trans rfl
   have y4 := blk_frozen BR.out 4
   have z5 : w'.cell? ⟨g0, 5, none⟩ = some (.int .i64 0) := (blk_cell BR.out 5).trans rfl
   have y5 := blk_frozen BR.out 5
   have z6 : w'.cell? ⟨g0, 6, none⟩ = some (.int .u32 0) := (blk_cell BR.out 6).trans rfl
   have y6 := blk_frozen BR.out 6
   have z7 : w'.cell? ⟨g0, 7, none⟩ = some (.string ⟨#[]⟩) := (blk_cell BR.out 7).trans rfl
   have y7 := blk_frozen BR.out 7
   have lt2 : ((t.length : Int) + 1 + 1 + 1 == 2) = false := by simp; omega
   have lt3 : (((t.length + 1 + 1 + 1 : Nat) : Int) == 2) = false := by simp; omega
   go_wp2
   refine bodyPost_ret (v := .agg #[.int .i64 0, .int .i64 0, .int .i64 0, .int .i64 0, .int .i64 0, .int .i64 0, .int .u32 0, .string ⟨#[]⟩]) ?hr ?he ?hf
   case he => rfl
   case hf => exact ⟨rfl, by (with_reducible repeat (first | exact HB.out | exact hb_ | refine below_set ?_ GZ.out | refine below_set ?_ GE.out | apply below_alloc | apply pw_below_drewN | apply below_drew1))⟩
   case hr =>
    dsimp only
    refine results_cell_row (p := 2) (ty := 64) ?h _ _ g0 64 _ (0, 0) _ ?hp ?hg hu33 ?hd ?hi
    case h => rfl
    case hp => rfl
    case hg => (with_reducible repeat (first | refine blk_drewN ?_ _ | refine blk_drew ?_)); refine blk_put (cs := #[.int .i64 0, .int .i64 0, .int .i64 0, .int .i64 0, .int .i64 0, .int .i64 0, .int .u32 0, .string ⟨#[]⟩]) ?_ 7 _ rfl; refine blk_put (cs := #[.int .i64 0, .int .i64 0, .int .i64 0, .int .i64 0, .int .i64 0, .int .i64 0, .int .u32 0, .string ⟨#[]⟩]) ?_ 6 _ rfl; refine blk_put (cs := #[.int .i64 0, .int .i64 0, .int .i64 0, .int .i64 0, .int .i64 0, .int .i64 0, .int .u32 0, .string ⟨#[]⟩]) ?_ 5 _ rfl; refine blk_put (cs := #[.int .i64 0, .int .i64 0, .int .i64 0, .int .i64 0, .int .i64 0, .int .i64 0, .int .u32 0, .string ⟨#[]⟩]) ?_ 4 _ rfl; refine blk_put (cs := #[.int .i64 0, .int .i64 0, .int .i64 0, .int .i64 0, .int .i64 0, .int .i64 0, .int .u32 0, .string ⟨#[]⟩]) ?_ 3 _ rfl; refine blk_put (cs := #[.int .i64 0, .int .i64 0, .int .i64 0, .int .i64 0, .int .i64 0, .int .i64 0, .int .u32 0, .string ⟨#[]⟩]) ?_ 2 _ rfl; refine blk_put (cs := #[.int .i64 0, .int .i64 0, .int .i64 0, .int .i64 0, .int .i64 0, .int .i64 0, .int .u32 0, .string ⟨#[]⟩]) ?_ 1 _ rfl; refine blk_put (cs := #[.int .i64 0, .int .i64 0, .int .i64 0, .int .i64 0, .int .i64 0, .int .i64 0, .int .u32 0, .string ⟨#[]⟩]) ?_ 0 _ rfl; exact BR.out
    case hd => rfl
    case hi => kernel_rfl
  | nil =>
   have H1 := H.out
   obtain ⟨⟨dn, db⟩, hd, H1⟩ := Option.bind_eq_some_iff.1 H1
   have HDN := Lib.hid (fun W (ht : Tab.TabsODEM W) => impl_DecNum.calls x 4294967295 dn db W ht hd)
   clear hd H
   have cx : w'.cell? ⟨g1, 1, none⟩ = some (.string x) := (blk_cell BW.out 1).trans rfl
   cases db with
   | false =>
    replace H1 : some impl_readLine.nil_ = some (r1, r2, r3, r4, r5, r6, r7, r8) := H1; simp only [impl_readLine.nil_, Option.some.injEq, Prod.mk.injEq] at H1; obtain ⟨rfl, rfl, rfl, rfl, rfl, rfl, rfl, rfl⟩ := H1
    go_wp2_with (first | (go_at_call 58; refine (HDN.out _ (HT.out.below HB.out)).mono ?_; rintro e w2 ⟨rfl, hb_⟩; have z0 : w2.cell? ⟨g0, 0, none⟩ = some (.int .i64 0) := (blk_cell (blk_below BR.out hb_) 0).trans rfl; have y0 := blk_frozen (blk_below BR.out hb_) 0; have z1 : w2.cell? ⟨g0, 1, none⟩ = some (.int .i64 0) := (blk_cell (blk_below BR.out hb_) 1).trans rfl; have y1 := blk_frozen (blk_below BR.out hb_) 1; have z2 : w2.cell? ⟨g0, 2, none⟩ = some (.int .i64 0) := (blk_cell (blk_below BR.out hb_) 2).trans rfl; have y2 := blk_frozen (blk_below BR.out hb_) 2; have z3 : w2.cell? ⟨g0, 3, none⟩ = some (.int .i64 0) := (blk_cell (blk_below BR.out hb_) 3).trans rfl; have y3 := blk_frozen (blk_below BR.out hb_) 3; have z4 : w2.cell? ⟨g0, 4, none⟩ = some (.int .i64 0) := (blk_cell (blk_below BR.out hb_) 4).trans rfl; have y4 := blk_frozen (blk_below BR.out hb_) 4; have z5 : w2.cell? ⟨g0, 5, none⟩ = some (.int .i64 0) := (blk_cell (blk_below BR.out hb_) 5).trans rfl; have y5 := blk_frozen (blk_below BR.out hb_) 5; have z6 : w2.cell? ⟨g0, 6, none⟩ = some (.int .u32 0) := (blk_cell (blk_below BR.out hb_) 6).trans rfl; have y6 := blk_frozen (blk_below BR.out hb_) 6; have z7 : w2.cell? ⟨g0, 7, none⟩ = some (.string ⟨#[]⟩) := (blk_cell (blk_below BR.out hb_) 7).trans rfl; have y7 := blk_frozen (blk_below BR.out hb_) 7))
    refine bodyPost_ret (v := .agg #[.int .i64 0, .int .i64 0, .int .i64 0, .int .i64 0, .int .i64 0, .int .i64 0, .int .u32 0, .string ⟨#[]⟩]) ?hr ?he ?hf
    case he => rfl
    case hf => exact ⟨rfl, by (with_reducible repeat (first | exact below_step HB.out hb_ | refine below_set ?_ GZ.out | apply below_alloc | apply pw_below_drewN | apply below_drew1))⟩
    case hr =>
     dsimp only
     refine results_cell_row (p := 2) (ty := 64) ?h _ _ g0 64 _ (0, 0) _ ?hp ?hg hu33 ?hd ?hi
     case h => rfl
     case hp => rfl
     case hg => (with_reducible repeat (first | refine blk_drewN ?_ _ | refine blk_drew ?_)); refine blk_put (cs := #[.int .i64 0, .int .i64 0, .int .i64 0, .int .i64 0, .int .i64 0, .int .i64 0, .int .u32 0, .string ⟨#[]⟩]) ?_ 7 _ rfl; refine blk_put (cs := #[.int .i64 0, .int .i64 0, .int .i64 0, .int .i64 0, .int .i64 0, .int .i64 0, .int .u32 0, .string ⟨#[]⟩]) ?_ 6 _ rfl; refine blk_put (cs := #[.int .i64 0, .int .i64 0, .int .i64 0, .int .i64 0, .int .i64 0, .int .i64 0, .int .u32 0, .string ⟨#[]⟩]) ?_ 5 _ rfl; refine blk_put (cs := #[.int .i64 0, .int .i64 0, .int .i64 0, .int .i64 0, .int .i64 0, .int .i64 0, .int .u32 0, .string ⟨#[]⟩]) ?_ 4 _ rfl; refine blk_put (cs := #[.int .i64 0, .int .i64 0, .int .i64 0, .int .i64 0, .int .i64 0, .int .i64 0, .int .u32 0, .string ⟨#[]⟩]) ?_ 3 _ rfl; refine blk_put (cs := #[.int .i64 0, .int .i64 0, .int .i64 0, .int .i64 0, .int .i64 0, .int .i64 0, .int .u32 0, .string ⟨#[]⟩]) ?_ 2 _ rfl; refine blk_put (cs := #[.int .i64 0, .int .i64 0, .int .i64 0, .int .i64 0, .int .i64 0, .int .i64 0, .int .u32 0, .string ⟨#[]⟩]) ?_ 1 _ rfl; refine blk_put (cs := #[.int .i64 0, .int .i64 0, .int .i64 0, .int .i64 0, .int .i64 0, .int .i64 0, .int .u32 0, .string ⟨#[]⟩]) ?_ 0 _ rfl; (with_reducible repeat (first | refine blk_drewN ?_ _ | refine blk_drew ?_)); exact blk_below BR.out hb_
     case hd => rfl
     case hi => kernel_rfl
   | true =>
    by_cases hneg : dn < 0
    · have H1 : some impl_readLine.nil_ = some (r1, r2, r3, r4, r5, r6, r7, r8) := (if_pos hneg).symm.trans H1
      simp only [impl_readLine.nil_, Option.some.injEq, Prod.mk.injEq] at H1; obtain ⟨rfl, rfl, rfl, rfl, rfl, rfl, rfl, rfl⟩ := H1
      have hd1 : decide (dn < 0) = true := decide_eq_true hneg
      go_wp2_with (first | (go_at_call 58; refine (HDN.out _ (HT.out.below HB.out)).mono ?_; rintro e w2 ⟨rfl, hb_⟩; have z0 : w2.cell? ⟨g0, 0, none⟩ = some (.int .i64 0) := (blk_cell (blk_below BR.out hb_) 0).trans rfl; have y0 := blk_frozen (blk_below BR.out hb_) 0; have z1 : w2.cell? ⟨g0, 1, none⟩ = some (.int .i64 0) := (blk_cell (blk_below BR.out hb_) 1).trans rfl; have y1 := blk_frozen (blk_below BR.out hb_) 1; have z2 : w2.cell? ⟨g0, 2, none⟩ = some (.int .i64 0) := (blk_cell (blk_below BR.out hb_) 2).trans rfl; have y2 := blk_frozen (blk_below BR.out hb_) 2; have z3 : w2.cell? ⟨g0, 3, none⟩ = some (.int .i64 0) := (blk_cell (blk_below BR.out hb_) 3).trans rfl; have y3 := blk_frozen (blk_below BR.out hb_) 3; have z4 : w2.cell? ⟨g0, 4, none⟩ = some (.int .i64 0) := (blk_cell (blk_below BR.out hb_) 4).trans rfl; have y4 := blk_frozen (blk_below BR.out hb_) 4; have z5 : w2.cell? ⟨g0, 5, none⟩ = some (.int .i64 0) := (blk_cell (blk_below BR.out hb_) 5).trans rfl; have y5 := blk_frozen (blk_below BR.out hb_) 5; have z6 : w2.cell? ⟨g0, 6, none⟩ = some (.int .u32 0) := (blk_cell (blk_below BR.out hb_) 6).trans rfl; have y6 := blk_frozen (blk_below BR.out hb_) 6; have z7 : w2.cell? ⟨g0, 7, none⟩ = some (.string ⟨#[]⟩) := (blk_cell (blk_below BR.out hb_) 7).trans rfl; have y7 := blk_frozen (blk_below BR.out hb_) 7))
      refine bodyPost_ret (v := .agg #[.int .i64 0, .int .i64 0, .int .i64 0, .int .i64 0, .int .i64 0, .int .i64 0, .int .u32 0, .string ⟨#[]⟩]) ?hr ?he ?hf
      case he => rfl
      case hf => exact ⟨rfl, by (with_reducible repeat (first | exact below_step HB.out hb_ | refine below_set ?_ GZ.out | apply below_alloc | apply pw_below_drewN | apply below_drew1))⟩
      case hr =>
       dsimp only
       refine results_cell_row (p := 2) (ty := 64) ?h _ _ g0 64 _ (0, 0) _ ?hp ?hg hu33 ?hd ?hi
       case h => rfl
       case hp => rfl
       case hg => (with_reducible repeat (first | refine blk_drewN ?_ _ | refine blk_drew ?_)); refine blk_put (cs := #[.int .i64 0, .int .i64 0, .int .i64 0, .int .i64 0, .int .i64 0, .int .i64 0, .int .u32 0, .string ⟨#[]⟩]) ?_ 7 _ rfl; refine blk_put (cs := #[.int .i64 0, .int .i64 0, .int .i64 0, .int .i64 0, .int .i64 0, .int .i64 0, .int .u32 0, .string ⟨#[]⟩]) ?_ 6 _ rfl; refine blk_put (cs := #[.int .i64 0, .int .i64 0, .int .i64 0, .int .i64 0, .int .i64 0, .int .i64 0, .int .u32 0, .string ⟨#[]⟩]) ?_ 5 _ rfl; refine blk_put (cs := #[.int .i64 0, .int .i64 0, .int .i64 0, .int .i64 0, .int .i64 0, .int .i64 0, .int .u32 0, .string ⟨#[]⟩]) ?_ 4 _ rfl; refine blk_put (cs := #[.int .i64 0, .int .i64 0, .int .i64 0, .int .i64 0, .int .i64 0, .int .i64 0, .int .u32 0, .string ⟨#[]⟩]) ?_ 3 _ rfl; refine blk_put (cs := #[.int .i64 0, .int .i64 0, .int .i64 0, .int .i64 0, .int .i64 0, .int .i64 0, .int .u32 0, .string ⟨#[]⟩]) ?_ 2 _ rfl; refine blk_put (cs := #[.int .i64 0, .int .i64 0, .int .i64 0, .int .i64 0, .int .i64 0, .int .i64 0, .int .u32 0, .string ⟨#[]⟩]) ?_ 1 _ rfl; refine blk_put (cs := #[.int .i64 0, .int .i64 0, .int .i64 0, .int .i64 0, .int .i64 0, .int .i64 0, .int .u32 0, .string ⟨#[]⟩]) ?_ 0 _ rfl; (with_reducible repeat (first | refine blk_drewN ?_ _ | refine blk_drew ?_)); exact blk_below BR.out hb_
       case hd => rfl
       case hi => kernel_rfl
    · have H1 : some ((2 : Int), (0 : Int), (0 : Int), (0 : Int), (0 : Int), (0 : Int), dn % 4294967296, (⟨#[]⟩ : ByteArray)) = some (r1, r2, r3, r4, r5, r6, r7, r8) := (if_neg hneg).symm.trans H1
      simp only [impl_readLine.nil_, Option.some.injEq, Prod.mk.injEq] at H1; obtain ⟨rfl, rfl, rfl, rfl, rfl, rfl, rfl, rfl⟩ := H1
      have hd1 : decide (dn < 0) = false := decide_eq_false hneg
      go_wp2_with (first | (go_at_call 58; refine (HDN.out _ (HT.out.below HB.out)).mono ?_; rintro e w2 ⟨rfl, hb_⟩; have z0 : w2.cell? ⟨g0, 0, none⟩ = some (.int .i64 0) := (blk_cell (blk_below BR.out hb_) 0).trans rfl; have y0 := blk_frozen (blk_below BR.out hb_) 0; have z1 : w2.cell? ⟨g0, 1, none⟩ = some (.int .i64 0) := (blk_cell (blk_below BR.out hb_) 1).trans rfl; have y1 := blk_frozen (blk_below BR.out hb_) 1; have z2 : w2.cell? ⟨g0, 2, none⟩ = some (.int .i64 0) := (blk_cell (blk_below BR.out hb_) 2).trans rfl; have y2 := blk_frozen (blk_below BR.out hb_) 2; have z3 : w2.cell? ⟨g0, 3, none⟩ = some (.int .i64 0) := (blk_cell (blk_below BR.out hb_) 3).trans rfl; have y3 := blk_frozen (blk_below BR.out hb_) 3; have z4 : w2.cell? ⟨g0, 4, none⟩ = some (.int .i64 0) := (blk_cell (blk_below BR.out hb_) 4).trans rfl; have y4 := blk_frozen (blk_below BR.out hb_) 4; have z5 : w2.cell? ⟨g0, 5, none⟩ = some (.int .i64 0) := (blk_cell (blk_below BR.out hb_) 5).trans rfl; have y5 := blk_frozen (blk_below BR.out hb_) 5; have z6 : w2.cell? ⟨g0, 6, none⟩ = some (.int .u32 0) := (blk_cell (blk_below BR.out hb_) 6).trans rfl; have y6 := blk_frozen (blk_below BR.out hb_) 6; have z7 : w2.cell? ⟨g0, 7, none⟩ = some (.string ⟨#[]⟩) := (blk_cell (blk_below BR.out hb_) 7).trans rfl; have y7 := blk_frozen (blk_below BR.out hb_) 7))
      refine bodyPost_ret (v := .agg #[.int .i64 2, .int .i64 0, .int .i64 0, .int .i64 0, .int .i64 0, .int .i64 0, .int .u32 (dn % 4294967296), .string ⟨#[]⟩]) ?hr ?he ?hf
      case he => rfl
      case hf => exact ⟨rfl, by (with_reducible repeat (first | exact below_step HB.out hb_ | refine below_set ?_ GZ.out | apply below_alloc | apply pw_below_drewN | apply below_drew1))⟩
      case hr =>
       dsimp only
       refine results_cell_row (p := 2) (ty := 64) ?h _ _ g0 64 _ (0, 0) _ ?hp ?hg hu33 ?hd ?hi
       case h => rfl
       case hp => rfl
       case hg => (with_reducible repeat (first | refine blk_drewN ?_ _ | refine blk_drew ?_)); refine blk_put (cs := #[.int .i64 2, .int .i64 0, .int .i64 0, .int .i64 0, .int .i64 0, .int .i64 0, .int .u32 (dn % 4294967296), .string ⟨#[]⟩]) ?_ 7 _ rfl; refine blk_put (cs := #[.int .i64 2, .int .i64 0, .int .i64 0, .int .i64 0, .int .i64 0, .int .i64 0, .int .u32 0, .string ⟨#[]⟩]) ?_ 6 _ rfl; refine blk_put (cs := #[.int .i64 2, .int .i64 0, .int .i64 0, .int .i64 0, .int .i64 0, .int .i64 0, .int .u32 0, .string ⟨#[]⟩]) ?_ 5 _ rfl; refine blk_put (cs := #[.int .i64 2, .int .i64 0, .int .i64 0, .int .i64 0, .int .i64 0, .int .i64 0, .int .u32 0, .string ⟨#[]⟩]) ?_ 4 _ rfl; refine blk_put (cs := #[.int .i64 2, .int .i64 0, .int .i64 0, .int .i64 0, .int .i64 0, .int .i64 0, .int .u32 0, .string ⟨#[]⟩]) ?_ 3 _ rfl; refine blk_put (cs := #[.int .i64 2, .int .i64 0, .int .i64 0, .int .i64 0, .int .i64 0, .int .i64 0, .int .u32 0, .string ⟨#[]⟩]) ?_ 2 _ rfl; refine blk_put (cs := #[.int .i64 2, .int .i64 0, .int .i64 0, .int .i64 0, .int .i64 0, .int .i64 0, .int .u32 0, .string ⟨#[]⟩]) ?_ 1 _ rfl; refine blk_put (cs := #[.int .i64 0, .int .i64 0, .int .i64 0, .int .i64 0, .int .i64 0, .int .i64 0, .int .u32 0, .string ⟨#[]⟩]) ?_ 0 _ rfl; (with_reducible repeat (first | refine blk_drewN ?_ _ | refine blk_drew ?_)); exact blk_below BR.out hb_
       case hd => rfl
       case hi => kernel_rfl
theorem impl_readLine.goes (k : Nat) (a0 : ByteArray) (hs : a0.size ≤ 80) (w0 : ByteArray) (wt : List ByteArray) (hws : impl_readLine.ws a0 = w0 :: wt) (sb : Bool) (hsb : impl_readLine.sx w0 = sb) (HNL : Hid (impl_readLine.NoLabel k w0 wt sb)) (r1 : Int) (r2 : Int) (r3 : Int) (r4 : Int) (r5 : Int) (r6 : Int) (r7 : Int) (r8 : ByteArray) (w : World) (HT : Aside0 (Tab.TabsODEM w)) (h : impl_readLine.go k w0 wt = some (r1, r2, r3, r4, r5, r6, r7, r8)) :
 Calls Tryz.prog 32 #[.string a0] w fun e w' => e = .returned (.agg #[.int .i64 r1, .int .i64 r2, .int .i64 r3, .int .i64 r4, .int .i64 r5, .int .i64 r6, .int .u32 r7, .string r8]) ∧ Below w.heap.size w w' := by
 unfold impl_readLine.go at h
 by_cases hd : w0.toList = ([46, 119, 111, 114, 100] : List UInt8)
 · rw [if_pos hd] at h
   exact impl_readLine.word k a0 hs w0 wt hws sb hsb HNL (by simpa using hd) r1 r2 r3 r4 r5 r6 r7 r8 w HT ⟨h⟩
 · rw [if_neg hd] at h
   have hdot : (w0.toList == ([46, 119, 111, 114, 100] : List UInt8)) = false := by simpa using hd
   obtain ⟨F, hF, h⟩ := Option.bind_eq_some_iff.1 h
   rcases impl_readLine.forms k _ F hF with rfl | rfl | rfl | rfl | rfl | rfl | rfl | rfl
   · exact impl_readLine.instm1 k a0 hs w0 wt hws sb hsb HNL r1 r2 r3 r4 r5 r6 r7 r8 w HT _ rfl hdot (Lib.hid hF) ⟨h⟩
   · exact impl_readLine.instG 0 (Lib.hid (by decide)) true true true true (by decide +kernel) (by decide +kernel) (by decide +kernel) (by decide +kernel) (Lib.hid (by decide)) (Lib.hid (by decide)) (Lib.hid (by decide)) (Lib.hid (by decide)) k a0 hs w0 wt hws sb hsb HNL r1 r2 r3 r4 r5 r6 r7 r8 w HT _ rfl hdot (Lib.hid hF) ⟨h⟩
   · exact impl_readLine.instG 1 (Lib.hid (by decide)) false true true true (by decide +kernel) (by decide +kernel) (by decide +kernel) (by decide +kernel) (Lib.hid (by decide)) (Lib.hid (by decide)) (Lib.hid (by decide)) (Lib.hid (by decide)) k a0 hs w0 wt hws sb hsb HNL r1 r2 r3 r4 r5 r6 r7 r8 w HT _ rfl hdot (Lib.hid hF) ⟨h⟩
   · exact impl_readLine.instG 7 (Lib.hid (by decide)) false false false true (by decide +kernel) (by decide +kernel) (by decide +kernel) (by decide +kernel) (Lib.hid (by decide)) (Lib.hid (by decide)) (Lib.hid (by decide)) (Lib.hid (by decide)) k a0 hs w0 wt hws sb hsb HNL r1 r2 r3 r4 r5 r6 r7 r8 w HT _ rfl hdot (Lib.hid hF) ⟨h⟩
   · exact impl_readLine.instG 8 (Lib.hid (by decide)) true true true false (by decide +kernel) (by decide +kernel) (by decide +kernel) (by decide +kernel) (Lib.hid (by decide)) (Lib.hid (by decide)) (Lib.hid (by decide)) (Lib.hid (by decide)) k a0 hs w0 wt hws sb hsb HNL r1 r2 r3 r4 r5 r6 r7 r8 w HT _ rfl hdot (Lib.hid hF) ⟨h⟩
   · exact impl_readLine.instG 9 (Lib.hid (by decide)) false true true false (by decide +kernel) (by decide +kernel) (by decide +kernel) (by decide +kernel) (Lib.hid (by decide)) (Lib.hid (by decide)) (Lib.hid (by decide)) (Lib.hid (by decide)) k a0 hs w0 wt hws sb hsb HNL r1 r2 r3 r4 r5 r6 r7 r8 w HT _ rfl hdot (Lib.hid hF) ⟨h⟩
   · exact impl_readLine.instG 10 (Lib.hid (by decide)) true false true false (by decide +kernel) (by decide +kernel) (by decide +kernel) (by decide +kernel) (Lib.hid (by decide)) (Lib.hid (by decide)) (Lib.hid (by decide)) (Lib.hid (by decide)) k a0 hs w0 wt hws sb hsb HNL r1 r2 r3 r4 r5 r6 r7 r8 w HT _ rfl hdot (Lib.hid hF) ⟨h⟩
   · exact impl_readLine.instG 11 (Lib.hid (by decide)) false false true false (by decide +kernel) (by decide +kernel) (by decide +kernel) (by decide +kernel) (Lib.hid (by decide)) (Lib.hid (by decide)) (Lib.hid (by decide)) (Lib.hid (by decide)) k a0 hs w0 wt hws sb hsb HNL r1 r2 r3 r4 r5 r6 r7 r8 w HT _ rfl hdot (Lib.hid hF) ⟨h⟩
def impl_readLine.f (a0 : ByteArray) : Option (Int × Int × Int × Int × Int × Int × Int × ByteArray) := impl_readLine.f0 200 a0
theorem impl_readLine.calls (a0 : ByteArray) (r1 : Int) (r2 : Int) (r3 : Int) (r4 : Int) (r5 : Int) (r6 : Int) (r7 : Int) (r8 : ByteArray) (w : World) (ht : Tab.TabsODEM w) (h : impl_readLine.f a0 = some (r1, r2, r3, r4, r5, r6, r7, r8)) :
 Calls Tryz.prog 32 #[.string a0] w fun e w' => e = .returned (.agg #[.int .i64 r1, .int .i64 r2, .int .i64 r3, .int .i64 r4, .int .i64 r5, .int .i64 r6, .int .u32 r7, .string r8]) ∧ Below w.heap.size w w' := by
 unfold impl_readLine.f at h
 generalize (200 : Nat) = k at h
 unfold impl_readLine.f0 at h
 by_cases hs : a0.size ≤ 80
 · rw [if_pos hs] at h
   obtain ⟨w0, wt, hws⟩ : ∃ w0 wt, impl_readLine.ws a0 = w0 :: wt := by
    cases e : impl_readLine.ws a0 with
    | nil => have := impl_readLine.ws_length a0; rw [e] at this; simp at this
    | cons x t => exact ⟨x, t, rfl⟩
   rw [hws, List.headD_cons, List.tail_cons] at h
   unfold impl_readLine.f1 at h
   cases hx : impl_readLine.sx w0 with
   | false =>
    rw [hx, if_neg (by simp)] at h
    exact impl_readLine.goes k a0 hs w0 wt hws false hx (Lib.hid (.inl rfl)) r1 r2 r3 r4 r5 r6 r7 r8 w ⟨ht⟩ h
   | true =>
    rw [hx, if_pos rfl] at h
    by_cases hn : wt = []
    · rw [if_pos hn] at h
      obtain ⟨l, hb, h⟩ := Option.bind_eq_some_iff.1 h
      cases l with
      | true =>
       rw [if_pos rfl] at h
       exact impl_readLine.label k a0 hs w0 wt hws true hx hn rfl hb r1 r2 r3 r4 r5 r6 r7 r8 w ⟨ht⟩ h
      | false =>
       rw [if_neg (by simp)] at h
       exact impl_readLine.goes k a0 hs w0 wt hws true hx (Lib.hid (.inr (.inr ⟨rfl, hn, hb⟩))) r1 r2 r3 r4 r5 r6 r7 r8 w ⟨ht⟩ h
    · rw [if_neg hn] at h
      exact impl_readLine.goes k a0 hs w0 wt hws true hx (Lib.hid (.inr (.inl ⟨rfl, hn⟩))) r1 r2 r3 r4 r5 r6 r7 r8 w ⟨ht⟩ h
 · rw [if_neg hs] at h; exact absurd h (by simp)

end Go.Proofs.YtaophlekfepkgaaGreatDoor.PFnAssemble

/- strconv.ParseUint(s, 16, 32) at a text of eight bytes, walked: the word that hexadecimal digits spell, or an error that is not nil. -/
import Derived.Test.YtjoiebnjpipenaaDoorProg
import Derived.Test.YtjoiebnjpipenaaDoorTabE
import Derived.Test.YtjoiebnjpipenaaDoorShelf
import Derived.Lib.ConvBytes
import Derived.Lib.AtoiErrMem
import Derived.Lib.Hide
import Derived.WalkKit
import Derived.Test.YtjoiebnjpipenaaDoorWWords
import Derived.Test.YtjoiebnjpipenaaDoorWMore
namespace Go.Proofs.YtjoiebnjpipenaaDoor.Hex
open Go.RowKit Go.Proofs.YtjoiebnjpipenaaDoorW.PrintWords

def low (c : Int) : Int := Go.bits .or .u8 c 32
theorem low_range : ∀ c : Fin 256, 0 ≤ low c.val ∧ low c.val ≤ 255 := by decide +kernel
/-- A hexadecimal digit's number, of either case. -/
def dig (c : Int) : Option Int := if 48 ≤ c ∧ c ≤ 57 then some (c - 48) else if 97 ≤ low c ∧ low c ≤ 102 then some (low c - 87) else none
def run (acc : Int) : List UInt8 → Option Int
  | [] => some acc
  | c :: r => (dig (c.toNat : Int)).bind fun d => run (acc * 16 + d) r
theorem dig_range {c d : Int} (h : dig c = some d) : 0 ≤ d ∧ d ≤ 15 := by
  unfold dig at h
  split at h
  · obtain rfl := Option.some.inj h; omega
  · split at h
    · obtain rfl := Option.some.inj h; omega
    · cases h
def back : Option Int → Value
  | some n => .tuple #[.int .u64 n, .nilIface]
  | none => .tuple #[.int .u64 0, .iface 92 (.int .i64 2)]
theorem pow16 : ∀ i : Fin 9, (16 : Int) ^ i.val ≤ 4294967296 := by decide +kernel
theorem pow16' : ∀ i : Fin 8, (16 : Int) ^ i.val ≤ 268435456 := by decide +kernel
theorem ret {a b : Value} (h : a = b) : Ending.returned a = Ending.returned b := by rw [h]
theorem drop_run (L : List UInt8) (k : Nat) (h : k < L.length) (n : Int) : run n (L.drop k) = (dig ((L.getD k 0).toNat : Int)).bind fun d => run (n * 16 + d) (L.drop (k + 1)) := by
  rw [List.drop_eq_getElem_cons h]
  simp [run, List.getD, h]
set_option maxHeartbeats 8000000 in
set_option maxRecDepth 100000 in
theorem parse (s : ByteArray) (hs : s.size = 8) (w : World) :
    Calls Tryd.prog 66 #[.string s, .int .i64 16, .int .i64 32] w fun e w' => e = .returned (back (run 0 s.data.toList)) ∧ Below w.heap.size w w' := by
  have hcv := Lib.run_convert_string_bytes (P := Tryd.prog) w 9 46 5 s (u := .string) Tryd.underlying9 Tryd.underlying46 Tryd.underlying5
  have HB := Lib.hid (fun j (hj : j < 8) => Lib.bytesWorld_cell w 5 s j (by rw [hs]; exact hj))
  have HBL := Aside0.mk (Lib.bytesWorld_below w 5 s)
  generalize Lib.bytesWorld w 5 s = W1 at *
  have hne : (s.toList == []) = false := by
    rw [beq_eq_false_iff_ne, ByteArray.toList_eq]
    intro h
    have : s.data.toList.length = 8 := by rw [Array.length_toList]; exact hs
    rw [h] at this; cases this
  have HL := Aside0.mk (show s.data.toList.length = 8 by rw [Array.length_toList]; exact hs)
  have hu5 := Tryd.underlying5
  have hu72 := Tryd.underlying72
  have hu54 := Tryd.underlying54
  have hu68 := Tryd.underlying68
  rw [hs] at hcv
  have HS := Aside0.mk hs
  clear hs
  go_enter Tryd.func66, Tryd.ntmps66
  go_wp2
  go_loop [12, 13, 101] (fun u v i => ∃ (k : Nat) (n : Int), k ≤ 8 ∧ u = .bool false ∧ v = .int .u64 n ∧ i = .int .i64 k ∧ Aside0 (0 ≤ n ∧ n < 16 ^ k ∧ run n (s.data.toList.drop k) = run 0 s.data.toList)) (fun _ _ i => 8 - (intOf i).toNat)
  case atStart => exact ⟨0, 0, by omega, rfl, rfl, rfl, ⟨by omega, by decide, rfl⟩⟩
  case round =>
    obtain ⟨k, n, hk, rfl, rfl, rfl, HR⟩ := hrel
    by_cases hlt : k < 8
    · have hc := HB.out k hlt
      have hrun := drop_run s.data.toList k (by rw [HL.out]; exact hlt) n
      obtain ⟨c, hcd⟩ : ∃ c : Int, c = ((s.data.toList.getD k 0).toNat : Int) := ⟨_, rfl⟩
      have hc0 : 0 ≤ c := by omega
      have hc1 : c ≤ 255 := by have := (s.data.toList.getD k 0).toNat_lt; omega
      rw [← hcd] at hc hrun
      have hlow := low_range ⟨c.toNat, by omega⟩
      rw [show (((⟨c.toNat, by omega⟩ : Fin 256).val : Nat) : Int) = c from by simp; omega] at hlow
      obtain ⟨hn0, hn1, hn2⟩ := HR.out
      have hp : (16 : Int) ^ k ≤ 268435456 := pow16' ⟨k, hlt⟩
      have hnb : n < 268435456 := by omega
      have hpk : (16 : Int) ^ (k + 1) = 16 ^ k * 16 := Int.pow_succ _ _
      have HPK := Aside0.mk hpk
      have HN1 := Aside0.mk hn1
      have HRUN := Aside0.mk (hrun.symm.trans hn2)
      have HLT := Aside0.mk hlt
      have e3 : decide ((k : Int) < 8) = true := decide_eq_true (by omega)
      have e4 : decide (k < 8) = true := decide_eq_true hlt
      clear hcd hrun hn1 hn2 hp hpk HR
      have hlc : ∀ W, Calls Tryd.prog 73 #[.int .u8 c] W fun e w' => e = .returned (.int .u8 (low c)) ∧ w' = W := fun W => Tryd.internal_strconv_lower c W
      have HLC := Lib.hid hlc
      clear hlc
      generalize hlw : low c = lc at *
      have HLW := Aside0.mk hlw
      clear hlw
      obtain ⟨hlw0, hlw1⟩ := hlow
      by_cases h1 : 48 ≤ c ∧ c ≤ 57
      · have HD := Aside0.mk (show dig c = some (c - 48) by unfold dig; rw [if_pos h1])
        obtain ⟨h1a, h1b⟩ := h1
        have e5 : (c == 95) = false := beq_eq_false_iff_ne.2 (by omega)
        have e6 : decide (48 ≤ c) = true := decide_eq_true h1a
        have e7 : decide (c ≤ 57) = true := decide_eq_true h1b
        go_wp2
        go_round
        case rel => exact ⟨k + 1, n * 16 + (c - 48), by have := HLT.out; omega, rfl, rfl, by go_num, ⟨by omega, by rw [HPK.out]; have := HN1.out; omega, by have h_ := HRUN.out; rw [HD.out] at h_; exact h_⟩⟩
        case measure => have := HLT.out; simp [intOf]; omega
      · have hnd : ¬ (48 ≤ c ∧ c ≤ 57) := h1
        clear h1
        by_cases h2 : 97 ≤ lc ∧ lc ≤ 102
        · have HD := Aside0.mk (show dig c = some (lc - 87) by unfold dig; rw [if_neg hnd, HLW.out, if_pos h2])
          have h95 : c ≠ 95 := by
            intro e
            have h_ := HLW.out
            rw [e] at h_
            have : low 95 = 127 := by decide +kernel
            omega
          have e5 : (c == 95) = false := beq_eq_false_iff_ne.2 h95
          obtain ⟨h2a, h2b⟩ := h2
          have e8 : decide (97 ≤ lc) = true := decide_eq_true h2a
          have e9 : decide (lc ≤ 122) = true := decide_eq_true (by omega)
          by_cases h3 : c < 48
          · have e6 : decide (48 ≤ c) = false := decide_eq_false (by omega)
            clear hnd h95
            go_wp2_with ((with_reducible refine (HLC.out _).mono ?_); rintro e w' ⟨rfl, rfl⟩)
            go_round
            case rel => exact ⟨k + 1, n * 16 + (lc - 87), by have := HLT.out; omega, rfl, by show Value.int _ _ = Value.int _ _; congr 1; omega, by go_num, ⟨by omega, by rw [HPK.out]; have := HN1.out; omega, by have h_ := HRUN.out; rw [HD.out] at h_; exact h_⟩⟩
            case measure => have := HLT.out; simp [intOf]; omega
          · have h3' : 57 < c := by omega
            have e6 : decide (48 ≤ c) = true := decide_eq_true (by omega)
            have e7 : decide (c ≤ 57) = false := decide_eq_false (by omega)
            clear hnd h95
            go_wp2_with ((with_reducible refine (HLC.out _).mono ?_); rintro e w' ⟨rfl, rfl⟩)
            go_round
            case rel => exact ⟨k + 1, n * 16 + (lc - 87), by have := HLT.out; omega, rfl, by show Value.int _ _ = Value.int _ _; congr 1; omega, by go_num, ⟨by omega, by rw [HPK.out]; have := HN1.out; omega, by have h_ := HRUN.out; rw [HD.out] at h_; exact h_⟩⟩
            case measure => have := HLT.out; simp [intOf]; omega
        · have HD := Aside0.mk (show dig c = none by unfold dig; rw [if_neg hnd, HLW.out, if_neg h2])
          by_cases h95 : c = 95
          · have e5 : (c == 95) = true := beq_iff_eq.2 h95
            have h4 : lc = 127 := by have h_ := HLW.out; rw [h95] at h_; exact h_.symm.trans (by decide +kernel)
            have e6 : decide (48 ≤ c) = true := decide_eq_true (by omega)
            have e7 : decide (c ≤ 57) = false := decide_eq_false (by omega)
            have e8 : decide (97 ≤ lc) = true := decide_eq_true (by omega)
            have e9 : decide (lc ≤ 122) = false := decide_eq_false (by omega)
            clear hnd h2 h95 h4
            go_wp2_with ((with_reducible refine (HLC.out _).mono ?_); rintro e w' ⟨rfl, rfl⟩)
            go_ret2
            exact ⟨by rw [← HRUN.out, HD.out]; rfl, HBL.out⟩
          · have e5 : (c == 95) = false := beq_eq_false_iff_ne.2 h95
            by_cases h3 : c < 48
            · have e6 : decide (48 ≤ c) = false := decide_eq_false (by omega)
              by_cases h5 : lc < 97
              · have e8 : decide (97 ≤ lc) = false := decide_eq_false (by omega)
                clear hnd h2 h95
                go_wp2_with ((with_reducible refine (HLC.out _).mono ?_); rintro e w' ⟨rfl, rfl⟩)
                go_ret2
                exact ⟨by rw [← HRUN.out, HD.out]; rfl, HBL.out⟩
              · have e8 : decide (97 ≤ lc) = true := decide_eq_true (by omega)
                have h102 : 102 < lc := by omega
                by_cases h6 : lc ≤ 122
                · have e9 : decide (lc ≤ 122) = true := decide_eq_true h6
                  clear hnd h2 h95
                  go_wp2_with ((with_reducible refine (HLC.out _).mono ?_); rintro e w' ⟨rfl, rfl⟩)
                  go_ret2
                  exact ⟨by rw [← HRUN.out, HD.out]; rfl, HBL.out⟩
                · have e9 : decide (lc ≤ 122) = false := decide_eq_false h6
                  clear hnd h2 h95
                  go_wp2_with ((with_reducible refine (HLC.out _).mono ?_); rintro e w' ⟨rfl, rfl⟩)
                  go_ret2
                  exact ⟨by rw [← HRUN.out, HD.out]; rfl, HBL.out⟩
            · have h3' : 57 < c := by omega
              have e6 : decide (48 ≤ c) = true := decide_eq_true (by omega)
              have e7 : decide (c ≤ 57) = false := decide_eq_false (by omega)
              by_cases h5 : lc < 97
              · have e8 : decide (97 ≤ lc) = false := decide_eq_false (by omega)
                clear hnd h2 h95
                go_wp2_with ((with_reducible refine (HLC.out _).mono ?_); rintro e w' ⟨rfl, rfl⟩)
                go_ret2
                exact ⟨by rw [← HRUN.out, HD.out]; rfl, HBL.out⟩
              · have e8 : decide (97 ≤ lc) = true := decide_eq_true (by omega)
                have h102 : 102 < lc := by omega
                by_cases h6 : lc ≤ 122
                · have e9 : decide (lc ≤ 122) = true := decide_eq_true h6
                  clear hnd h2 h95
                  go_wp2_with ((with_reducible refine (HLC.out _).mono ?_); rintro e w' ⟨rfl, rfl⟩)
                  go_ret2
                  exact ⟨by rw [← HRUN.out, HD.out]; rfl, HBL.out⟩
                · have e9 : decide (lc ≤ 122) = false := decide_eq_false h6
                  clear hnd h2 h95
                  go_wp2_with ((with_reducible refine (HLC.out _).mono ?_); rintro e w' ⟨rfl, rfl⟩)
                  go_ret2
                  exact ⟨by rw [← HRUN.out, HD.out]; rfl, HBL.out⟩
    · obtain rfl : k = 8 := by omega
      have hr : run n (s.data.toList.drop 8) = some n := by
        rw [List.drop_eq_nil_of_le (by rw [HL.out]; exact Nat.le_refl _)]; rfl
      have HR2 := Aside0.mk (show run 0 s.data.toList = some n from HR.out.2.2.symm.trans hr)
      clear hr
      go_wp2
      go_ret2
      exact ⟨by rw [HR2.out]; rfl, HBL.out⟩

theorem run_range : ∀ (l : List UInt8) (acc n : Int) (j : Nat), 0 ≤ acc → acc < 16 ^ j → run acc l = some n → 0 ≤ n ∧ n < 16 ^ (j + l.length) := by
  intro l
  induction l with
  | nil => intro acc n j h0 h1 h; obtain rfl := Option.some.inj h; exact ⟨h0, h1⟩
  | cons c l ih =>
    intro acc n j h0 h1 h
    obtain ⟨d, hd, h⟩ := Option.bind_eq_some_iff.mp h
    have hr := dig_range hd
    have hp : (16 : Int) ^ (j + 1) = 16 ^ j * 16 := Int.pow_succ _ _
    have := ih (acc * 16 + d) n (j + 1) (by omega) (by rw [hp]; omega) h
    rwa [show j + 1 + l.length = j + (c :: l).length by simp; omega] at this
theorem run_word (s : ByteArray) (hs : s.size = 8) (n : Int) (h : run 0 s.data.toList = some n) : 0 ≤ n ∧ n < 4294967296 := by
  have := run_range s.data.toList 0 n 0 (by omega) (by decide) h
  rw [show s.data.toList.length = 8 by rw [Array.length_toList]; exact hs] at this
  exact this
set_option maxHeartbeats 2000000 in
set_option maxRecDepth 100000 in
theorem good (s : ByteArray) (hs : s.size = 8) (n : Int) (hn : run 0 s.data.toList = some n) (w : World) :
    Calls Tryd.prog 52 #[.string s, .int .i64 16, .int .i64 32] w fun e w' => e = .returned (.tuple #[.int .u64 n, .nilIface]) ∧ Below w.heap.size w w' := by
  have hp := parse s hs w
  rw [hn] at hp
  have HP := Lib.hid hp
  have hu68 := Tryd.underlying68
  clear hp hs hn
  go_enter Tryd.func52, Tryd.ntmps52
  go_wp2_with fail
  refine HP.out.mono ?_
  rintro e w1 ⟨rfl, hb⟩
  dsimp only [back]
  go_wp2
  go_ret2
  exact ⟨rfl, hb⟩
set_option maxHeartbeats 2000000 in
set_option maxRecDepth 100000 in
theorem bad (s : ByteArray) (hs : s.size = 8) (hn : run 0 s.data.toList = none) (w : World) (ht : Tab.ErrTab w) :
    Calls Tryd.prog 52 #[.string s, .int .i64 16, .int .i64 32] w fun e w' => (∃ N : Nat, e = .returned (.tuple #[.int .u64 0, .iface 94 (.pointer (some ⟨N, 0, none⟩))])) ∧ Below w.heap.size w w' := by
  have hp := parse s hs w
  rw [hn] at hp
  have HP := Lib.hid hp
  have HT := Aside0.mk ht
  have HSZ := Aside0.mk (show s.size ≤ 281474976710656 by omega)
  have hu68 := Tryd.underlying68
  have hu92 := Tryd.underlying92
  clear hp hs hn ht
  go_enter Tryd.func52, Tryd.ntmps52
  go_wp2_with fail
  refine HP.out.mono ?_
  rintro e w1 ⟨rfl, hb⟩
  dsimp only [back]
  obtain ⟨tp, p, hv⟩ := (HT.out.below hb).s
  have hc : w1.cell? ⟨1, 0, none⟩ = some (.iface tp p) := by
    have := World.var?_cell (show Tryd.prog.globalNamed "strconv.ErrSyntax" = some 1 by kernel_rfl) hv 0
    simpa using this
  have HC := Aside0.mk hc
  have HB := Aside0.mk hb
  clear hc hv hb
  go_wp2_with fail
  refine (Tryd.strconv_toError_syntax _ s 16 32 (.iface tp p) _ HSZ.out HC.out (.inr ⟨_, _, rfl⟩)).mono ?_
  rintro e w2 ⟨N, rfl, _, _, hb2⟩
  go_wp2
  go_ret2
  exact ⟨⟨N, rfl⟩, below_step HB.out hb2⟩

end Go.Proofs.YtjoiebnjpipenaaDoor.Hex

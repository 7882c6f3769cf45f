/- A text assembled, in the reference and in the program, over the print of the law FnExactLabelsOf. -/
import Derived.Test.YtaophlekfepkgaaGreatDoorAsmBFnExactLabelsOf
namespace Go.Proofs.YtaophlekfepkgaaGreatDoor.PFnExactLabelsOf
open Go.RowKit Go.Proofs.YtaophlekfepkgaaGreatDoorW.PrintWords Go.Proofs.YtaophlekfepkgaaGreatDoorW.PrintLast Go.Proofs.YtaophlekfepkgaaGreatDoor.Lem

abbrev LB := List (ByteArray × Int)
def encw (a b c d e : Int) : Int := a * 67108864 + b * 4194304 + c * 262144 + d * 16384 + e % 16384
theorem mod_eq {n : Int} (h0 : -8192 ≤ n) (h1 : n ≤ 8191) : spec_l01Mod.f n 16384 = some (n % 16384) := by
  unfold spec_l01Mod.f
  rw [if_neg (by omega)]
  have ht : Int.tmod n 16384 = n := by
    by_cases h : 0 ≤ n
    · rw [Int.tmod_eq_emod_of_nonneg h]; omega
    · have := Int.neg_tmod (a := -n) (b := 16384)
      rw [Int.neg_neg] at this
      rw [this, Int.tmod_eq_emod_of_nonneg (by omega)]; omega
  rw [ht]
  by_cases h : n < 0
  · rw [if_pos h, w64 (by omega) (by omega)]; congr 1; omega
  · rw [if_neg h]; congr 1; omega
theorem encw_impl {a b c d e : Int} (h : OkI a b c d e) : impl_encode.f a b c d e = some (encw a b c d e) := by
  have ha := h.ro; have hb := h.ra; have hc := h.rb; have hd := h.rc; have he := h.re
  unfold impl_encode.f encw
  have hm : Go.bits .and .u32 (e % 4294967296) 16383 = e % 16384 := by
    have := and_mask .u32 14 (by decide) (fun n a b => wraps_u32 n a (by omega)) (e % 4294967296)
    rw [show (2 : Int) ^ 14 - 1 = 16383 from rfl, show (2 : Int) ^ 14 = 16384 from rfl] at this
    omega
  have j : ∀ (i : Nat) (x y : Int), 0 ≤ x → x % 2 ^ i = 0 → x < 4294967296 → 0 ≤ y → y < 2 ^ i → y < 4294967296 → Go.bits .or .u32 x y = x + y :=
    fun i x y h1 h2 h3 h4 h5 h6 => bits_join .u32 32 (by decide) wraps_u32 i x y h1 h2 h3 h4 h5 h6
  rw [hm]
  have ea : a % 4294967296 * 67108864 % 4294967296 = a * 67108864 := by omega
  have eb : b % 4294967296 * 4194304 % 4294967296 = b * 4194304 := by omega
  have ec : c % 4294967296 * 262144 % 4294967296 = c * 262144 := by omega
  have ed : d % 4294967296 * 16384 % 4294967296 = d * 16384 := by omega
  rw [ea, eb, ec, ed]
  rw [j 26 (a * 67108864) (b * 4194304) (by omega) (by omega) (by omega) (by omega) (by omega) (by omega)]
  rw [j 22 (a * 67108864 + b * 4194304) (c * 262144) (by omega) (by omega) (by omega) (by omega) (by omega) (by omega)]
  rw [j 18 (a * 67108864 + b * 4194304 + c * 262144) (d * 16384) (by omega) (by omega) (by omega) (by omega) (by omega) (by omega)]
  rw [j 14 (a * 67108864 + b * 4194304 + c * 262144 + d * 16384) (e % 16384) (by omega) (by omega) (by omega) (by omega) (by omega) (by omega)]
theorem encw_range {a b c d e : Int} (h : OkI a b c d e) : 0 ≤ encw a b c d e ∧ encw a b c d e < 4294967296 := by
  have ha := h.ro; have hb := h.ra; have hc := h.rb; have hd := h.rc; have he := h.re
  unfold encw; omega
theorem encw_spec {a b c d e : Int} (h : OkI a b c d e) : spec_Encode.f a b c d e = some (encw a b c d e, true) := by
  have ha := h.ro; have hb := h.ra; have hc := h.rb; have hd := h.rc; have he := h.re
  unfold spec_Encode.f
  rw [h.is, Option.bind_some, if_pos rfl, mod_eq he.1 he.2, Option.bind_some]
  rw [w64 (n := a * 67108864) (by omega) (by omega), w64 (n := b * 4194304) (by omega) (by omega), w64 (n := c * 262144) (by omega) (by omega), w64 (n := d * 16384) (by omega) (by omega),
    w64 (n := a * 67108864 + b * 4194304) (by omega) (by omega), w64 (n := a * 67108864 + b * 4194304 + c * 262144) (by omega) (by omega),
    w64 (n := a * 67108864 + b * 4194304 + c * 262144 + d * 16384) (by omega) (by omega), w64 (n := a * 67108864 + b * 4194304 + c * 262144 + d * 16384 + e % 16384) (by omega) (by omega)]
  unfold encw
  rw [show (a * 67108864 + b * 4194304 + c * 262144 + d * 16384 + e % 16384) % 4294967296 = a * 67108864 + b * 4194304 + c * 262144 + d * 16384 + e % 16384 by omega]
/-- What a line is. -/
def rOf (x : ByteArray) : RL := (impl_assemble.rd x).getD impl_readLine.nil_
theorem rOf_spec (x : ByteArray) : Evt (fun k => spec_ReadLine.f k x) (rOf x) := by
  obtain ⟨r, h1, h2, _⟩ := rd_both x
  unfold rOf; rw [h2]; exact h1
theorem rOf_impl (x : ByteArray) : impl_assemble.rd x = some (rOf x) := by
  obtain ⟨r, h1, h2, _⟩ := rd_both x
  unfold rOf; rw [h2]; rfl
theorem rOf_kp (x : ByteArray) : KP (rOf x) := by
  obtain ⟨r, h1, h2, h3⟩ := rd_both x
  unfold rOf; rw [h2]; exact h3
abbrev RL.k (r : RL) : Int := r.1
abbrev RL.op (r : RL) : Int := r.2.1
abbrev RL.a (r : RL) : Int := r.2.2.1
abbrev RL.b (r : RL) : Int := r.2.2.2.1
abbrev RL.c (r : RL) : Int := r.2.2.2.2.1
abbrev RL.imm (r : RL) : Int := r.2.2.2.2.2.1
abbrev RL.word (r : RL) : Int := r.2.2.2.2.2.2.1
abbrev RL.lab (r : RL) : ByteArray := r.2.2.2.2.2.2.2
/-- The first pass: labels, a code and a line. -/
def p1 : List RL → Nat → Nat → LB → LB × Int × Int
  | [], _, _, lb => (lb, 0, 0)
  | r :: t, i, n, lb => if r.1 = 0 then (lb, 2, (i : Int) + 1) else if r.1 = 1 then (if (impl_assemble.find lb (RL.lab r)).isSome then (lb, 3, (i : Int) + 1) else p1 t (i + 1) n (lb ++ [(RL.lab r, (n : Int))])) else if n = 256 then (lb, 4, (i : Int) + 1) else p1 t (i + 1) (n + 1) lb
/-- The second pass: the words. -/
def p2 (lb : LB) : List RL → Nat → List Int → List Int × Int × Int
  | [], _, ws => (ws, 0, 0)
  | r :: t, i, ws => if r.1 = 2 then p2 lb t (i + 1) (ws ++ [RL.word r]) else if r.1 = 3 then p2 lb t (i + 1) (ws ++ [encw (RL.op r) (RL.a r) (RL.b r) (RL.c r) (RL.imm r)]) else if r.1 = 4 then (match impl_assemble.find lb (RL.lab r) with
    | none => ([], 5, (i : Int) + 1)
    | some x => p2 lb t (i + 1) (ws ++ [encw (RL.op r) (RL.a r) (RL.b r) (RL.c r) (x - (ws.length : Int) - 1)])) else p2 lb t (i + 1) ws
/-- Labels as the reference holds them. -/
def toS (lb : LB) : List S67 := lb.map fun p => ⟨p.1, p.2⟩
def Vals (lb : LB) : Prop := ∀ p ∈ lb, 0 ≤ p.2 ∧ p.2 ≤ 256
theorem find_val {lb : LB} (hv : Vals lb) {s : ByteArray} {x : Int} (h : impl_assemble.find lb s = some x) : 0 ≤ x ∧ x ≤ 256 := by
  induction lb with
  | nil => simp [impl_assemble.find] at h
  | cons p t ih =>
    unfold impl_assemble.find at h
    split at h
    · rw [← Option.some.inj h]; exact hv p (by simp)
    · exact ih (fun q hq => hv q (List.mem_cons_of_mem _ hq)) h
theorem tl_inj {a b : ByteArray} : a.toList = b.toList ↔ a = b := by
  rw [ByteArray.toList_eq, ByteArray.toList_eq]
  constructor
  · intro h; exact ByteArray.ext (Array.toList_inj.1 h)
  · intro h; rw [h]
theorem rd_toS (lb : LB) (i : Nat) (h : i < lb.length) : rd_T67 (toS lb) (i : Int) = ⟨lb[i].1, lb[i].2⟩ := by
  unfold rd_T67 toS
  rw [Int.toNat_natCast, List.getD_eq_getElem?_getD, List.getElem?_eq_getElem (by simpa using h)]
  simp
theorem find_spec (lb : LB) (hl : lb.length ≤ 1000000) (s : ByteArray) : Evt (fun k => spec_l03Find.f k (toS lb) s) ((impl_assemble.find lb s).getD (-1)) := by
  have key : ∀ d i : Nat, i + d = lb.length → Evt (fun k => spec_l03Find.l0 k (toS lb) s i) ((impl_assemble.find (lb.drop i) s).getD (-1)) := by
    have hlt : (toS lb).length = lb.length := by unfold toS; simp
    intro d
    induction d with
    | zero =>
      intro i hi
      refine ev_end fun k => ?_
      simp only [spec_l03Find.l0]
      rw [hlt, if_neg (by omega), List.drop_eq_nil_of_le (by omega)]; rfl
    | succ d ih =>
      intro i hi
      have h1 := ih (i + 1) (by omega)
      rw [List.drop_eq_getElem_cons (by omega)]
      unfold impl_assemble.find
      by_cases e : lb[i].1 = s
      · rw [if_pos e]
        refine ev_end fun k => ?_
        simp only [spec_l03Find.l0]
        rw [hlt, if_pos (by omega), if_pos (by omega), rd_toS lb i (by omega), if_pos (tl_inj.2 e)]; rfl
      · rw [if_neg e]
        refine ev_step (fun k => ?_) h1
        simp only [spec_l03Find.l0]
        rw [hlt, if_pos (by omega), if_pos (by omega), rd_toS lb i (by omega), if_neg (fun h => e (tl_inj.1 h)), w64 (by omega) (by omega)]; rfl
  exact key lb.length 0 (by omega)
theorem rdx (xs : List ByteArray) (i : Nat) (h : i < xs.length) : rdOf ByteArray.empty xs (i : Int) = xs[i] := by
  unfold rdOf
  rw [Int.toNat_natCast, List.getD_eq_getElem?_getD, List.getElem?_eq_getElem h]; rfl
theorem toS_append (lb : LB) (s : ByteArray) (x : Int) : toS (lb ++ [(s, x)]) = toS lb ++ [⟨s, x⟩] := by simp [toS]
theorem dropr (xs : List ByteArray) (i : Nat) (h : i < xs.length) : (xs.drop i).map rOf = rOf xs[i] :: (xs.drop (i + 1)).map rOf := by
  rw [List.drop_eq_getElem_cons h]; rfl
/-- The reference's second pass. -/
theorem spec_p2 (xs : List ByteArray) (hx : xs.length ≤ 600) (lb : LB) (hl : lb.length ≤ 600) (hv : Vals lb) : ∀ d i : Nat, i + d = xs.length → ∀ ws : List Int, ws.length ≤ i →
    Evt (fun k => spec_l03All.l1 k ws (toS lb) xs i) ((p2 lb ((xs.drop i).map rOf) i ws).1, toS lb, (p2 lb ((xs.drop i).map rOf) i ws).2.1, (p2 lb ((xs.drop i).map rOf) i ws).2.2) := by
  intro d
  induction d with
  | zero =>
    intro i hi ws hw
    refine ev_end fun k => ?_
    simp only [spec_l03All.l1]
    rw [if_neg (by omega), List.drop_eq_nil_of_le (by omega)]; rfl
  | succ d ih =>
    intro i hi ws hw
    have hlt : i < xs.length := by omega
    have hr := rOf_spec xs[i]
    have hk := rOf_kp xs[i]
    rw [dropr xs i hlt]
    generalize rOf xs[i] = r at hr hk
    obtain ⟨k, op, a, b, c, imm, word, lab⟩ := r
    have hwi : wrap64 ((i : Int) + 1) = ((i + 1 : Nat) : Int) := by rw [w64 (by omega) (by omega)]; omega
    have hwi2 : wrap64 ((i : Int) + 1) = (i : Int) + 1 := w64 (by omega) (by omega)
    have step : ∀ R : List Int × List S67 × Int × Int, Evt (fun k_ => (if k = 2 then (if ws.length < 35184372088832 then (spec_l03All.l1 k_ (ws ++ [word]) (toS lb) xs ((i + 1 : Nat) : Int)) else (none)) else (if k = 3 then ((spec_Encode.f op a b c imm).bind fun bt235 => (if ws.length < 35184372088832 then (spec_l03All.l1 k_ (ws ++ [bt235.1]) (toS lb) xs ((i + 1 : Nat) : Int)) else (none))) else (if k = 4 then ((spec_l03Find.f k_ (toS lb) lab).bind fun t240 => (if t240 < 0 then (some ((([] : List Int)), toS lb, 5, (i : Int) + 1)) else ((spec_Encode.f op a b c (wrap64 ((wrap64 (t240 - (ws.length : Int))) - 1))).bind fun bt245 => (if bt245.2 = true then (if ws.length < 35184372088832 then (spec_l03All.l1 k_ (ws ++ [bt245.1]) (toS lb) xs ((i + 1 : Nat) : Int)) else (none)) else (some ((([] : List Int)), toS lb, 6, (i : Int) + 1)))))) else (spec_l03All.l1 k_ ws (toS lb) xs ((i + 1 : Nat) : Int)))))) R →
        Evt (fun k_ => spec_l03All.l1 k_ ws (toS lb) xs i) R := by
      intro R hR
      refine ev_step (g := fun k_ => (spec_ReadLine.f k_ xs[i]).bind fun bt223 => (if bt223.1 = 2 then (if ws.length < 35184372088832 then (spec_l03All.l1 k_ (ws ++ [bt223.2.2.2.2.2.2.1]) (toS lb) xs (wrap64 ((i : Int) + 1))) else (none)) else (if bt223.1 = 3 then ((spec_Encode.f bt223.2.1 bt223.2.2.1 bt223.2.2.2.1 bt223.2.2.2.2.1 bt223.2.2.2.2.2.1).bind fun bt235 => (if ws.length < 35184372088832 then (spec_l03All.l1 k_ (ws ++ [bt235.1]) (toS lb) xs (wrap64 ((i : Int) + 1))) else (none))) else (if bt223.1 = 4 then ((spec_l03Find.f k_ (toS lb) bt223.2.2.2.2.2.2.2).bind fun t240 => (if t240 < 0 then (some ((([] : List Int)), toS lb, 5, wrap64 ((i : Int) + 1))) else ((spec_Encode.f bt223.2.1 bt223.2.2.1 bt223.2.2.2.1 bt223.2.2.2.2.1 (wrap64 ((wrap64 (t240 - (ws.length : Int))) - 1))).bind fun bt245 => (if bt245.2 = true then (if ws.length < 35184372088832 then (spec_l03All.l1 k_ (ws ++ [bt245.1]) (toS lb) xs (wrap64 ((i : Int) + 1))) else (none)) else (some ((([] : List Int)), toS lb, 6, wrap64 ((i : Int) + 1))))))) else (spec_l03All.l1 k_ ws (toS lb) xs (wrap64 ((i : Int) + 1))))))) (fun k_ => ?_) (ev_bind hr ?_)
      · simp only [spec_l03All.l1]
        rw [if_pos (by omega), if_pos (by omega), rdx xs i hlt]
      · rw [hwi2]; rw [show (i : Int) + 1 = ((i + 1 : Nat) : Int) by omega] at hR ⊢; exact hR
    refine step _ ?_
    unfold p2
    by_cases k2 : k = 2
    · simp only [if_pos k2, if_pos (show ws.length < 35184372088832 by omega)]
      exact ih (i + 1) (by omega) (ws ++ [word]) (by simp; omega)
    · simp only [if_neg k2]
      by_cases k3 : k = 3
      · have he := encw_spec (hk.i k3)
        simp only [if_pos k3]
        dsimp only at he
        rw [he]
        simp only [Option.bind_some, if_pos (show ws.length < 35184372088832 by omega)]
        exact ih (i + 1) (by omega) (ws ++ [encw op a b c imm]) (by simp; omega)
      · simp only [if_neg k3]
        by_cases k4 : k = 4
        · simp only [if_pos k4]
          have hf := find_spec lb (by omega) lab
          cases hfd : impl_assemble.find lb lab with
          | none =>
            rw [hfd] at hf
            refine ev_bind hf (ev_of fun k_ => ?_)
            rfl
          | some x =>
            have hx := find_val hv hfd
            rw [hfd] at hf
            have he := encw_spec (hk.b k4 (x - (ws.length : Int) - 1) (by omega))
            dsimp only at he
            refine ev_bind hf ?_
            simp only [Option.getD_some, if_neg (show ¬ x < 0 by omega)]
            rw [w64 (n := x - (ws.length : Int)) (by omega) (by omega), w64 (n := x - (ws.length : Int) - 1) (by omega) (by omega), he]
            simp only [Option.bind_some, if_true, if_pos (show ws.length < 35184372088832 by omega)]
            exact ih (i + 1) (by omega) _ (by simp; omega)
        · simp only [if_neg k4]
          exact ih (i + 1) (by omega) ws (by omega)

end Go.Proofs.YtaophlekfepkgaaGreatDoor.PFnExactLabelsOf

/- What the package-level variables hold that the rows list (opNames, strconv's powers of ten, strconv's sentinels), as the walks ask for it. -/
import Derived.Test.YtjoiebnjpipenaaDoorProg
import Derived.Lib.LaidTab
import Derived.Lib.ItoaNum
import Derived.LaidSub
import Derived.Below
import Derived.Sort.Grow
import Derived.Deep.Draws
import Derived.RowKit
namespace Go.Proofs.YtjoiebnjpipenaaDoor.Tab
open Go.Lib Go.RowKit

/-- The names of the ops. -/
def names : List (List UInt8) := [[110, 111, 112], [97, 100, 100], [115, 117, 98], [97, 110, 100], [111, 114], [120, 111, 114], [115, 104, 108], [115, 104, 114], [115, 97, 114], [109, 117, 108], [100, 105, 118], [115, 108, 116], [115, 108, 116, 117], [97, 100, 100, 105], [108, 117, 105], [108, 119], [115, 119], [108, 98], [115, 98], [98, 101, 113], [98, 110, 101], [98, 108, 116], [106, 97, 108], [106, 114], [114, 100, 99], [115, 101, 110, 100], [114, 101, 99, 118], [114, 100, 101, 118], [99, 115, 114, 114], [99, 115, 114, 119], [105, 114, 101, 116], [121, 105, 101, 108, 100], [116, 114, 97, 112]]
def nm (i : Nat) : ByteArray := ⟨(names.getD i []).toArray⟩
def StrTab (w : World) : Prop := ∀ i, i < 33 → w.cell? ⟨0, i, none⟩ = some (.string (nm i))
def PowTab (w : World) : Prop := TabIs Tryd.prog w "internal/strconv.uint64pow10" .u64 pow10Tab

theorem cells_of_strs {H : Type} {enc : TypeId × Value → H} {P : Program} {w : World} {base : Nat} {sp : Nat → Bool} {held : Bool} {fuel : Nat} {t e : TypeId} {n : Nat} {cs : List Value} {zs : List (List UInt8)} {p : List MemPlace}
    (ht : P.underlying t = some (.array n e)) (he : P.underlying e = some .string) (hce : P.cellsOf e = 1) (hct : P.cellsOf t = n)
    (h : DataW.trod enc P w base sp held fuel t cs = some (.agg (zs.map fun z => .lit (.string z)), p)) : cs = zs.map fun z => Value.string ⟨z.toArray⟩ := by
  cases fuel with
  | zero => simp [DataW.trod] at h
  | succ fuel =>
    simp only [DataW.trod, ht, hce, hct, Nat.mul_one] at h
    split at h
    · rename_i hl
      obtain ⟨xs, hm, hx⟩ := Option.map_eq_some_iff.1 h
      have hxs : xs.map (·.1) = zs.map fun z => (DataW.lit (.string z) : DataW H) := by
        have := congrArg Prod.fst hx
        simpa using this
      have hxl : xs.length = n := by simpa using mapM_length hm
      have hzl : zs.length = n := by
        have := congrArg List.length hxs
        simp at this
        omega
      apply List.ext_getElem?
      intro i
      by_cases hi : i < n
      · obtain ⟨b, hb, hf⟩ := mapM_at hm i i (by simp [hi])
        obtain ⟨s, hc, rfl, _⟩ := DataW.trod_string he hf
        have h1 : cs[i]? = some (.string s) := by
          have := congrArg (·[0]?) hc
          simpa [List.getElem?_take, List.getElem?_drop] using this
        have h2 : (xs.map (·.1))[i]? = some (DataW.lit (.string s.data.toList) : DataW H) := by simp [hb]
        rw [hxs] at h2
        simp only [List.getElem?_map, Option.map_eq_some_iff, DataW.lit.injEq, Lit.string.injEq] at h2
        obtain ⟨z', hz', e⟩ := h2
        simp [h1, hz', e]
      · rw [List.getElem?_eq_none (by omega), List.getElem?_eq_none (by simp; omega)]
    · cases h

/-- A listed variable reads as it is listed. -/
theorem mem_vars {P : Program} {w : World} {name : String} {d : DataW Unit} : ∀ {l : List (String × DataW Unit)} {ps : List MemPlace}, DataW.LaidVars P w l ps → (name, d) ∈ l →
    ∃ g t cs fuel p, P.globalNamed name = some g ∧ (P.globals[g]?).map (·.type) = some t ∧ w.var? P name = some cs ∧ DataW.trod (fun _ => ()) P w 0 (fun _ => true) false fuel t cs.toList = some (d, p)
  | [], _, _, h => by cases h
  | (n, e) :: r, ps, h, hm => by
    obtain ⟨g, t, cs, fuel, p, q, e1, e2, e3, e4, hr, _⟩ := h
    rcases List.mem_cons.1 hm with hm | hm
    · cases hm; exact ⟨g, t, cs, fuel, p, e1, e2, e3, e4⟩
    · exact mem_vars hr hm
theorem mem_laid {P : Program} {w : World} {name : String} {d : DataW Unit} {l : List (String × DataW Unit)} (h : laidMetH P l w) (hm : (name, d) ∈ l) (hn : d.handleName? = none) :
    ∃ g t cs fuel p, P.globalNamed name = some g ∧ (P.globals[g]?).map (·.type) = some t ∧ w.var? P name = some cs ∧ DataW.trod (fun _ => ()) P w 0 (fun _ => true) false fuel t cs.toList = some (d, p) := by
  obtain ⟨⟨ps, hl, _, _⟩, _⟩ := laidMetH_iff.1 h
  exact mem_vars hl (List.mem_filter.2 ⟨hm, by simp [hn]⟩)
theorem gNames : Tryd.prog.globalNamed "loop.example/g00076/impl.opNames" = some 0 := by kernel_rfl
theorem gNamesType : (Tryd.prog.globals[0]?).map (·.type) = some 58 := by kernel_rfl
theorem strTab_of_laid {w : World} {l : List (String × DataW Unit)} (h : laidMetH Tryd.prog l w) (hm : ("loop.example/g00076/impl.opNames", (DataW.agg (names.map fun z => .lit (.string z)) : DataW Unit)) ∈ l) : StrTab w := by
  obtain ⟨g, t, cs, fuel, p, e1, e2, e3, e4⟩ := mem_laid h hm rfl
  obtain rfl := Option.some.inj (gNames.symm.trans e1)
  obtain rfl := Option.some.inj (gNamesType.symm.trans e2)
  have hc := cells_of_strs Tryd.underlying58 Tryd.underlying9 (by kernel_rfl) (by kernel_rfl) e4
  intro i hi
  have := World.var?_cell gNames e3 i
  rw [this]
  have h2 : cs[i]? = cs.toList[i]? := by simp
  rw [h2, hc]
  have hl : names.length = 33 := rfl
  simp [nm, List.getD, hl, hi]
theorem powTab_of_laid {w : World} {l : List (String × DataW Unit)} (h : laidMetH Tryd.prog l w) (hm : ("internal/strconv.uint64pow10", (tabData .u64 pow10Tab : DataW Unit)) ∈ l) : PowTab w := by
  obtain ⟨g, t, cs, fuel, p, e1, e2, e3, e4⟩ := mem_laid h hm rfl
  obtain rfl := Option.some.inj ((show Tryd.prog.globalNamed "internal/strconv.uint64pow10" = some 3 by kernel_rfl).symm.trans e1)
  obtain rfl := Option.some.inj ((show (Tryd.prog.globals[3]?).map (·.type) = some 109 by kernel_rfl).symm.trans e2)
  unfold PowTab TabIs
  rw [e3, ← cells_of_tab Tryd.underlying109 Tryd.underlying72 (by kernel_rfl) (by kernel_rfl) e4]

theorem StrTab.below {n : Nat} {w w' : World} (h : StrTab w) (hb : Below n w w') (hn : 0 < n) : StrTab w' := fun i hi => (hb.cell (p := ⟨0, i, none⟩) hn).trans (h i hi)
theorem StrTab.lt {w : World} (h : StrTab w) : 0 < w.heap.size := World.block_lt_of_cell? w _ (h 0 (by omega))
theorem tabIs_below {P : Program} {name : String} {k : IntKind} {zs : List Int} {w w' : World} (h : TabIs P w name k zs) (hb : Below w.heap.size w w') : TabIs P w' name k zs := by
  unfold TabIs at h ⊢
  unfold World.var? at h ⊢
  cases hg : P.globalNamed name with
  | none => rw [hg] at h; cases h
  | some g =>
    rw [hg] at h
    simp only [Option.bind_some] at h ⊢
    have hlt : g < w.heap.size := by
      by_cases hlt : g < w.heap.size
      · exact hlt
      · rw [show w.heap[g]? = none from by simp; omega] at h; cases h
    rw [hb.block g hlt]; exact h

theorem below_grow (w : World) (k : Nat) (os : Array Obj) : Below w.heap.size w (Go.Sort.grow (w.drewN k) os) := by
  refine ⟨rfl, rfl, rfl, ?_, fun j hj => ?_⟩
  · simp [Go.Sort.grow, World.drewN]
  · have e : (Go.Sort.grow (w.drewN k) os).heap = w.heap ++ os := rfl
    rw [e, Array.getElem?_append_left hj]

/-- What a walk may ask: the names alone. -/
structure TabsO (w : World) : Prop where
  o : StrTab w
theorem TabsO.below {w w' : World} (h : TabsO w) (hb : Below w.heap.size w w') : TabsO w' := ⟨h.o.below hb h.o.lt⟩
/-- The powers of ten alone. -/
structure TabsD (w : World) : Prop where
  d : PowTab w
theorem TabsD.below {w w' : World} (h : TabsD w) (hb : Below w.heap.size w w') : TabsD w' := ⟨tabIs_below h.d hb⟩
/-- Both. -/
structure TabsOD (w : World) : Prop where
  o : StrTab w
  d : PowTab w
theorem TabsOD.below {w w' : World} (h : TabsOD w) (hb : Below w.heap.size w w') : TabsOD w' := ⟨h.o.below hb h.o.lt, tabIs_below h.d hb⟩

end Go.Proofs.YtjoiebnjpipenaaDoor.Tab

/- strconv's two sentinels, as the walks ask for them: each variable holds an interface value that is not nil. -/
import Derived.Test.YtaophlekfepkgaaGreatDoorTab
import Derived.Stop.LaidErr
namespace Go.Proofs.YtaophlekfepkgaaGreatDoor.Tab
open Go.Lib Go.RowKit

def HoldsErr (name : String) (w : World) : Prop := ∃ (tp : TypeId) (p : Value), w.var? Tryz.prog name = some #[.iface tp p]
structure ErrTab (w : World) : Prop where
  s : HoldsErr "strconv.ErrSyntax" w
  r : HoldsErr "strconv.ErrRange" w
theorem var_below {P : Program} {name : String} {cs : Array Value} {w w' : World} (h : w.var? P name = some cs) (hb : Below w.heap.size w w') : w'.var? P name = some cs := by
  unfold World.var? at h ⊢
  cases hg : P.globalNamed name with
  | none => rw [hg] at h; cases h
  | some g =>
    rw [hg] at h
    simp only [Option.bind_some] at h ⊢
    have hlt : g < w.heap.size := by
      by_cases hlt : g < w.heap.size
      · exact hlt
      · rw [show w.heap[g]? = none from by simp; omega] at h; cases h
    rw [hb.block g hlt]; exact h
theorem ErrTab.below {w w' : World} (h : ErrTab w) (hb : Below w.heap.size w w') : ErrTab w' := by
  obtain ⟨⟨t1, p1, h1⟩, ⟨t2, p2, h2⟩⟩ := h
  exact ⟨⟨t1, p1, var_below h1 hb⟩, ⟨t2, p2, var_below h2 hb⟩⟩
theorem only {l : List (String × DataW Unit)} {w : World} (h : laidMetH Tryz.prog l w) (name : String) (d : DataW Unit) (hd : d.handleName? = none) (he : l.filter (fun x => x.1 == name) = [(name, d)]) : laidMet Tryz.prog [(name, d)] w := by
  have h2 := h.filter (fun x => x.1 == name)
  rw [he] at h2
  obtain ⟨h3, _⟩ := laidMetH_iff.1 h2
  simpa [List.filter, hd] using h3
theorem star : "*" ++ "errors.errorString" = "*errors.errorString" := by decide
theorem errorStringOnly (u : TypeId) (h : Tryz.prog.typeName? 3 u = some "*errors.errorString") : u = 168 :=
  typeName_ptr_named (nm := "errors.errorString") (by rw [star]; kernel_rfl) (by kernel_rfl) (by decide) u (by rw [star]; exact h)
theorem errTab_of_laid {w : World} {l : List (String × DataW Unit)} (h : laidMetH Tryz.prog l w) (x y : List UInt8)
    (hs : l.filter (fun z => z.1 == "strconv.ErrSyntax") = [("strconv.ErrSyntax", .iface "*errors.errorString" (.ptr (.agg [.lit (.string x)])))])
    (hr : l.filter (fun z => z.1 == "strconv.ErrRange") = [("strconv.ErrRange", .iface "*errors.errorString" (.ptr (.agg [.lit (.string y)])))]) : ErrTab w := by
  have h1 := only h _ _ (by rfl) hs
  have h2 := only h _ _ (by rfl) hr
  obtain ⟨a1, s1, v1, _⟩ := laid_sentinel (g := 2) (ti := 55) (tp := 168) (te := 170) (ts := 9) h1 (by kernel_rfl) (by kernel_rfl) Tryz.underlying55 errorStringOnly Tryz.underlying168 Tryz.underlying170 rfl rfl Tryz.underlying9 (by kernel_rfl) (by kernel_rfl)
  obtain ⟨a2, s2, v2, _⟩ := laid_sentinel (g := 3) (ti := 55) (tp := 168) (te := 170) (ts := 9) h2 (by kernel_rfl) (by kernel_rfl) Tryz.underlying55 errorStringOnly Tryz.underlying168 Tryz.underlying170 rfl rfl Tryz.underlying9 (by kernel_rfl) (by kernel_rfl)
  exact ⟨⟨_, _, v1⟩, ⟨_, _, v2⟩⟩
/-- What a walk may ask: the powers of ten, and the sentinels. -/
structure TabsDE (w : World) : Prop where
  d : PowTab w
  e : ErrTab w
theorem TabsDE.below {w w' : World} (h : TabsDE w) (hb : Below w.heap.size w w') : TabsDE w' := ⟨tabIs_below h.d hb, h.e.below hb⟩
/-- All. -/
structure TabsODE (w : World) : Prop where
  o : StrTab w
  d : PowTab w
  e : ErrTab w
theorem TabsODE.below {w w' : World} (h : TabsODE w) (hb : Below w.heap.size w w') : TabsODE w' := ⟨h.o.below hb h.o.lt, tabIs_below h.d hb, h.e.below hb⟩

end Go.Proofs.YtaophlekfepkgaaGreatDoor.Tab

/- The cell of bytealg's MaxLen, as strings.Split's contract asks for it: it holds some int (from the world's shape). -/
import Derived.Test.YtaophlekfepkgaaGreatDoorTabE
import Derived.Shelf.Vars
namespace Go.Proofs.YtaophlekfepkgaaGreatDoor.Tab
open Go.Lib Go.RowKit

def MaxTab (w : World) : Prop := ∃ m, w.cell? ⟨1, 0, none⟩ = some (.int .i64 m)
theorem MaxTab.below {w w' : World} (h : MaxTab w) (hb : Below w.heap.size w w') : MaxTab w' := by
  obtain ⟨m, h⟩ := h
  exact ⟨m, (hb.cell (p := ⟨1, 0, none⟩) (World.block_lt_of_cell? w _ h)).trans h⟩
theorem maxTab_of_shaped {w : World} (h : w.ShapedOpen Tryz.prog) : MaxTab w :=
  Go.Proofs.cell_of_shapedOpen_int (g := 1) (zero := #[.int .i64 0]) (t := 3) h (of_decide_eq_true (by kernel_rfl)) (by kernel_rfl) rfl (by kernel_rfl) (by kernel_rfl) Tryz.underlying3
/-- All, and MaxLen. -/
structure TabsODEM (w : World) : Prop where
  o : StrTab w
  d : PowTab w
  e : ErrTab w
  m : MaxTab w
theorem TabsODEM.below {w w' : World} (h : TabsODEM w) (hb : Below w.heap.size w w') : TabsODEM w' := ⟨h.o.below hb h.o.lt, tabIs_below h.d hb, h.e.below hb, h.m.below hb⟩

end Go.Proofs.YtaophlekfepkgaaGreatDoor.Tab

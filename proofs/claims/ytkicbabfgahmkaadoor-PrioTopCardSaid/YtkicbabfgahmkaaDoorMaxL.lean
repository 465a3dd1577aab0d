/- The variable of the library's own that its search reads: it holds some number. -/
import Derived.Test.YtkicbabfgahmkaaDoorShelf
import Derived.Test.YtkicbabfgahmkaaDoorOwn
import Derived.Test.YtkicbabfgahmkaaDoorRows2
set_option linter.all false
namespace Go.Proofs.YtkicbabfgahmkaaDoor
open Go.RowKit
def MaxL (w : World) : Prop := ∃ m, w.cell? ⟨0, 0, none⟩ = some (.int .i64 m)
theorem MaxL.ext {w W : World} (h : MaxL w) (hb : Below w.heap.size w W) : MaxL W := by
  obtain ⟨m, hm⟩ := h
  exact ⟨m, laterc hm hb (World.block_lt_of_cell? w _ hm)⟩
theorem maxl_of {w : World} (h : w.ShapedOpen Tryd.prog) : MaxL w := Tryd.laysM145.s1_3 w h
end Go.Proofs.YtkicbabfgahmkaaDoor

/- A world in which Go's two tables of UTF-8 read as the row lists them. -/
import Derived.Test.YteibhcocldihbaaDoorRows
import Derived.ChangeSame
import Derived.ChangeVars
import Derived.LaidLaws
import Derived.LaidHandle
import Derived.Lay
set_option linter.all false
namespace Go.Proofs.YteibhcocldihbaaDoor
open Go.ChangeShapes Go.WideShapes
def tabList : List (String × DataW Unit) := [("unicode/utf8.acceptRanges", Rows.laid_unicode_utf8_acceptRanges), ("unicode/utf8.first", Rows.laid_unicode_utf8_first)]
noncomputable def tabWorld (os : Os) : World := World.laidAll Tryd.prog os tabList
theorem tab_part : (tabList.filter fun x => x.2.handleName?.isNone) = tabList := rfl
theorem tab_fits (os : Os) : (World.holding Tryd.prog os ⟨#[], #[], []⟩).layFits Tryd.prog tabList [] = true := by kernel_rfl
theorem tab_ifaces (os : Os) : (World.holding Tryd.prog os ⟨#[], #[], []⟩).layIfaces Tryd.prog tabList (World.laidAll Tryd.prog os tabList) = true := by kernel_rfl
theorem tabWorld_met (os : Os) (args : Array Value) : laidMetH Tryd.prog tabList ((tabWorld os).forCall (fun _ _ => 0) ⟨#[], args, []⟩).memory :=
  laidMetH_of_parts (by rw [tab_part]; exact laidMet_laidAll args (tab_fits os) (tab_ifaces os)) (by kernel_rfl)
end Go.Proofs.YteibhcocldihbaaDoor

/- A world in which Go's two tables of UTF-8 read as a row lists them, and errors.errorType holds its handle. -/
import Derived.Test.YteibhcocldihbaaDoorTabVar
import Derived.Test.YteibhcocldihbaaDoorErrVar
set_option linter.all false
namespace Go.Proofs.YteibhcocldihbaaDoor
open Go.ChangeShapes Go.WideShapes Go.RowKit
noncomputable def allWorld (os : Os) : World := (laidWorld os).layVars Tryd.prog tabList
theorem all_names : (tabList.map (·.1)) = ["unicode/utf8.acceptRanges", "unicode/utf8.first"] := rfl
theorem all_fits (os : Os) : (laidWorld os).layFits Tryd.prog tabList [] = true := by kernel_rfl
theorem all_ifaces (os : Os) : (laidWorld os).layIfaces Tryd.prog tabList (allWorld os) = true := by kernel_rfl
theorem all_tabs (os : Os) (args : Array Value) : laidMet Tryd.prog tabList ((allWorld os).forCall (fun _ _ => 0) ⟨#[], args, []⟩).memory := by
  have e1 : (tabList.filter fun x => ["unicode/utf8.acceptRanges", "unicode/utf8.first"].contains x.1) = tabList := rfl
  have e2 : (tabList.filter fun x => !["unicode/utf8.acceptRanges", "unicode/utf8.first"].contains x.1) = [] := rfl
  have h : laidMet Tryd.prog tabList (allWorld os) := laidMet_layVars (w0 := laidWorld os) ["unicode/utf8.acceptRanges", "unicode/utf8.first"] [] (by rw [e1]; rfl) (by rw [e1]; exact all_fits os) (by rw [e1]; exact all_ifaces os) (by rw [e2]; exact LaidIn.none)
  exact h.of_heap (by simp [World.memory, World.forCall, Input.heap])
/-- For a row's own list, whatever its order: the two tables, in this order, and errors.errorType. -/
theorem allWorld_met (l : List (String × DataW Unit)) (h1 : (l.filter fun x => x.2.handleName?.isNone) = tabList) (h2 : (l.filter fun x => x.2.handleName?.isSome) = laidList) (os : Os) (args : Array Value) : laidMetH Tryd.prog l ((allWorld os).forCall (fun _ _ => 0) ⟨#[], args, []⟩).memory :=
  laidMetH_of_parts (by rw [h1]; exact all_tabs os args) (by rw [h2]; kernel_rfl)
theorem handle_of_all {l : List (String × DataW Unit)} {W : World} (h2 : (l.filter fun x => x.2.handleName?.isSome) = laidList) (h : laidMetH Tryd.prog l W) : ErrVar W := by
  apply handle_of_laid
  unfold laidMetH at h
  rw [h2] at h
  exact ⟨laidMet_nil _ _, h.2⟩
end Go.Proofs.YteibhcocldihbaaDoor

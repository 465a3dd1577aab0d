/- TreePorts, for an argument that came in. -/
import Derived.Test.YthpgdipcdllfdaaPorts2
import Derived.Test.YthpgdipcdllfdaaOpenN
namespace Go.Proofs.Ythpgdipcdllfdaa
open Go.RowKit
theorem law_TreePorts (v : Value) (L : List (Node × Value)) (w : World) (h : IsNodes w v L) :
    Calls Try.prog 5 #[v] w fun e w' => e = .returned (.bool true) ∧ Below w.heap.size w w' := by
  obtain ⟨A, n, cap, rfl, hL, hcap, hn, hl⟩ := h
  exact treePorts_any L A n cap hL hn hcap w hl
end Go.Proofs.Ythpgdipcdllfdaa

/- Openers: api.Tag. (Printed by tools/mkop7.py.) -/
import Derived.Test.YtkicbabfgahmkaaDoorOpenF
import Derived.Test.YtkicbabfgahmkaaDoorTg1
set_option linter.all false
namespace Go.Proofs.YtkicbabfgahmkaaDoor
open Go.RowKit
set_option maxRecDepth 100000 in
theorem tag_types : Tryd.prog.cellTypes Tryd.prog.depth 39 = some [4, 3, 4, 3] := by kernel_rfl
theorem tag_struct : ∃ fs, Tryd.prog.underlying 39 = some (.struct fs) := ⟨_, Tryd.underlying39⟩
set_option maxRecDepth 100000 in
set_option maxHeartbeats 1000000 in
theorem open_tag {H : Type} {enc : TypeId × Value → H} {w : World} {r : Reach} {base : Nat} {b0 : Nat} {sp : Nat → Bool} {hd : Bool} {v : Value} {d : DataW H} {ps : List MemPlace}
    (h : Value.okWide Tryd.prog w r base 39 v) (_ : DataW.Trod enc Tryd.prog w b0 sp hd 39 v d ps) : ∃ x : Tk, v = .agg x.vals.toArray := by
  obtain ⟨cs, rfl, hl, hc⟩ := flatV (.inl tag_struct) tag_types (by kernel_rfl) h
  match cs, hl with
  | [z0, z1, z2, z3], _ =>
    obtain ⟨x0, e0, k0⟩ := hc 0 4 rfl
    obtain ⟨x1, e1, k1⟩ := hc 1 3 rfl
    obtain ⟨x2, e2, k2⟩ := hc 2 4 rfl
    obtain ⟨x3, e3, k3⟩ := hc 3 3 rfl
    obtain rfl : z0 = x0 := Option.some.inj e0
    obtain rfl : z1 = x1 := Option.some.inj e1
    obtain rfl : z2 = x2 := Option.some.inj e2
    obtain rfl : z3 = x3 := Option.some.inj e3
    obtain ⟨c0, rfl⟩ := cell_bool Tryd.underlying4 k0
    obtain ⟨c1, rfl, h1⟩ := cell_int Tryd.underlying3 k1
    obtain ⟨c2, rfl⟩ := cell_bool Tryd.underlying4 k2
    obtain ⟨c3, rfl, h3⟩ := cell_int Tryd.underlying3 k3
    exact ⟨⟨c0, c1, c2, c3⟩, rfl⟩
end Go.Proofs.YtkicbabfgahmkaaDoor

/- Openers: api.Addr. (Printed by tools/mkop7.py.) -/
import Derived.Test.YtkicbabfgahmkaaDoorOpenF
import Derived.Test.YtkicbabfgahmkaaDoorAd
set_option linter.all false
namespace Go.Proofs.YtkicbabfgahmkaaDoor
open Go.RowKit
theorem u8_has {n : Int} (h : IntKind.u8.has n) : ∃ b : UInt8, n = b.toNat := by
  have h2 : 0 ≤ n ∧ n ≤ 255 := h
  refine ⟨UInt8.ofNat n.toNat, ?_⟩
  rw [UInt8.toNat_ofNat']
  omega
set_option maxRecDepth 100000 in
theorem addr_types : Tryd.prog.cellTypes Tryd.prog.depth 23 = some [5, 5, 5, 5, 5, 5] := by kernel_rfl
theorem addr_struct : ∃ n e, Tryd.prog.underlying 23 = some (.array n e) := ⟨_, _, Tryd.underlying23⟩
set_option maxRecDepth 100000 in
set_option maxHeartbeats 1000000 in
theorem open_addr {H : Type} {enc : TypeId × Value → H} {w : World} {r : Reach} {base : Nat} {b0 : Nat} {sp : Nat → Bool} {hd : Bool} {v : Value} {d : DataW H} {ps : List MemPlace}
    (h : Value.okWide Tryd.prog w r base 23 v) (_ : DataW.Trod enc Tryd.prog w b0 sp hd 23 v d ps) : ∃ x : Ad, v = .agg x.vals.toArray := by
  obtain ⟨cs, rfl, hl, hc⟩ := flatV (.inr addr_struct) addr_types (by kernel_rfl) h
  match cs, hl with
  | [z0, z1, z2, z3, z4, z5], _ =>
    obtain ⟨x0, e0, k0⟩ := hc 0 5 rfl
    obtain ⟨x1, e1, k1⟩ := hc 1 5 rfl
    obtain ⟨x2, e2, k2⟩ := hc 2 5 rfl
    obtain ⟨x3, e3, k3⟩ := hc 3 5 rfl
    obtain ⟨x4, e4, k4⟩ := hc 4 5 rfl
    obtain ⟨x5, e5, k5⟩ := hc 5 5 rfl
    obtain rfl : z0 = x0 := Option.some.inj e0
    obtain rfl : z1 = x1 := Option.some.inj e1
    obtain rfl : z2 = x2 := Option.some.inj e2
    obtain rfl : z3 = x3 := Option.some.inj e3
    obtain rfl : z4 = x4 := Option.some.inj e4
    obtain rfl : z5 = x5 := Option.some.inj e5
    obtain ⟨n0, rfl, h0⟩ := cell_int Tryd.underlying5 k0
    obtain ⟨c0, rfl⟩ := u8_has h0
    obtain ⟨n1, rfl, h1⟩ := cell_int Tryd.underlying5 k1
    obtain ⟨c1, rfl⟩ := u8_has h1
    obtain ⟨n2, rfl, h2⟩ := cell_int Tryd.underlying5 k2
    obtain ⟨c2, rfl⟩ := u8_has h2
    obtain ⟨n3, rfl, h3⟩ := cell_int Tryd.underlying5 k3
    obtain ⟨c3, rfl⟩ := u8_has h3
    obtain ⟨n4, rfl, h4⟩ := cell_int Tryd.underlying5 k4
    obtain ⟨c4, rfl⟩ := u8_has h4
    obtain ⟨n5, rfl, h5⟩ := cell_int Tryd.underlying5 k5
    obtain ⟨c5, rfl⟩ := u8_has h5
    exact ⟨⟨c0, c1, c2, c3, c4, c5⟩, rfl⟩
end Go.Proofs.YtkicbabfgahmkaaDoor

/- Both sides, as an argument that came in. -/
import Derived.Test.YteibhcocldihbaaDoorLacp8
import Derived.Test.YteibhcocldihbaaDoorOpenF
namespace Go.Proofs.YteibhcocldihbaaDoor
open Go.RowKit
theorem u8_has {n : Int} (h : IntKind.u8.has n) : ∃ b : UInt8, n = b.toNat := by
  have h1 : IntKind.u8.min ≤ n ∧ n ≤ IntKind.u8.max := h
  have e1 : IntKind.u8.min = 0 := by rfl
  have e2 : IntKind.u8.max = 255 := by rfl
  refine ⟨UInt8.ofNat n.toNat, ?_⟩
  rw [UInt8.toNat_ofNat']
  omega
set_option maxRecDepth 100000 in
theorem lac_types : Tryd.prog.cellTypes Tryd.prog.depth 85 = some [3, 5, 5, 5, 5, 5, 5, 3, 3, 3, 3, 3, 5, 5, 5, 5, 5, 5, 3, 3, 3, 3, 3] := by kernel_rfl
theorem lac_struct : ∃ fs, Tryd.prog.underlying 85 = some (.struct fs) := ⟨_, Tryd.underlying85⟩
set_option maxRecDepth 100000 in
set_option maxHeartbeats 1000000 in
theorem open_lac {H : Type} {enc : TypeId × Value → H} {w : World} {r : Reach} {base : Nat} {b0 : Nat} {sp : Nat → Bool} {hd : Bool} {v : Value} {d : DataW H} {ps : List MemPlace}
    (h : Value.okWide Tryd.prog w r base 85 v) (_ : DataW.Trod enc Tryd.prog w b0 sp hd 85 v d ps) : ∃ x : Lac, v = .agg x.vals.toArray := by
  obtain ⟨cs, rfl, hl, hc⟩ := flatV (.inl lac_struct) lac_types (by kernel_rfl) h
  match cs, hl with
  | [z0, z1, z2, z3, z4, z5, z6, z7, z8, z9, z10, z11, z12, z13, z14, z15, z16, z17, z18, z19, z20, z21, z22], _ =>
    obtain ⟨x0, e0, k0⟩ := hc 0 3 rfl
    obtain ⟨x1, e1, k1⟩ := hc 1 5 rfl
    obtain ⟨x2, e2, k2⟩ := hc 2 5 rfl
    obtain ⟨x3, e3, k3⟩ := hc 3 5 rfl
    obtain ⟨x4, e4, k4⟩ := hc 4 5 rfl
    obtain ⟨x5, e5, k5⟩ := hc 5 5 rfl
    obtain ⟨x6, e6, k6⟩ := hc 6 5 rfl
    obtain ⟨x7, e7, k7⟩ := hc 7 3 rfl
    obtain ⟨x8, e8, k8⟩ := hc 8 3 rfl
    obtain ⟨x9, e9, k9⟩ := hc 9 3 rfl
    obtain ⟨x10, e10, k10⟩ := hc 10 3 rfl
    obtain ⟨x11, e11, k11⟩ := hc 11 3 rfl
    obtain ⟨x12, e12, k12⟩ := hc 12 5 rfl
    obtain ⟨x13, e13, k13⟩ := hc 13 5 rfl
    obtain ⟨x14, e14, k14⟩ := hc 14 5 rfl
    obtain ⟨x15, e15, k15⟩ := hc 15 5 rfl
    obtain ⟨x16, e16, k16⟩ := hc 16 5 rfl
    obtain ⟨x17, e17, k17⟩ := hc 17 5 rfl
    obtain ⟨x18, e18, k18⟩ := hc 18 3 rfl
    obtain ⟨x19, e19, k19⟩ := hc 19 3 rfl
    obtain ⟨x20, e20, k20⟩ := hc 20 3 rfl
    obtain ⟨x21, e21, k21⟩ := hc 21 3 rfl
    obtain ⟨x22, e22, k22⟩ := hc 22 3 rfl
    obtain rfl : z0 = x0 := Option.some.inj e0
    obtain rfl : z1 = x1 := Option.some.inj e1
    obtain rfl : z2 = x2 := Option.some.inj e2
    obtain rfl : z3 = x3 := Option.some.inj e3
    obtain rfl : z4 = x4 := Option.some.inj e4
    obtain rfl : z5 = x5 := Option.some.inj e5
    obtain rfl : z6 = x6 := Option.some.inj e6
    obtain rfl : z7 = x7 := Option.some.inj e7
    obtain rfl : z8 = x8 := Option.some.inj e8
    obtain rfl : z9 = x9 := Option.some.inj e9
    obtain rfl : z10 = x10 := Option.some.inj e10
    obtain rfl : z11 = x11 := Option.some.inj e11
    obtain rfl : z12 = x12 := Option.some.inj e12
    obtain rfl : z13 = x13 := Option.some.inj e13
    obtain rfl : z14 = x14 := Option.some.inj e14
    obtain rfl : z15 = x15 := Option.some.inj e15
    obtain rfl : z16 = x16 := Option.some.inj e16
    obtain rfl : z17 = x17 := Option.some.inj e17
    obtain rfl : z18 = x18 := Option.some.inj e18
    obtain rfl : z19 = x19 := Option.some.inj e19
    obtain rfl : z20 = x20 := Option.some.inj e20
    obtain rfl : z21 = x21 := Option.some.inj e21
    obtain rfl : z22 = x22 := Option.some.inj e22
    obtain ⟨c0, rfl, h0⟩ := cell_int Tryd.underlying3 k0
    obtain ⟨n1, rfl, h1⟩ := cell_int Tryd.underlying5 k1
    obtain ⟨c1, rfl⟩ := u8_has h1
    obtain ⟨n2, rfl, h2⟩ := cell_int Tryd.underlying5 k2
    obtain ⟨c2, rfl⟩ := u8_has h2
    obtain ⟨n3, rfl, h3⟩ := cell_int Tryd.underlying5 k3
    obtain ⟨c3, rfl⟩ := u8_has h3
    obtain ⟨n4, rfl, h4⟩ := cell_int Tryd.underlying5 k4
    obtain ⟨c4, rfl⟩ := u8_has h4
    obtain ⟨n5, rfl, h5⟩ := cell_int Tryd.underlying5 k5
    obtain ⟨c5, rfl⟩ := u8_has h5
    obtain ⟨n6, rfl, h6⟩ := cell_int Tryd.underlying5 k6
    obtain ⟨c6, rfl⟩ := u8_has h6
    obtain ⟨c7, rfl, h7⟩ := cell_int Tryd.underlying3 k7
    obtain ⟨c8, rfl, h8⟩ := cell_int Tryd.underlying3 k8
    obtain ⟨c9, rfl, h9⟩ := cell_int Tryd.underlying3 k9
    obtain ⟨c10, rfl, h10⟩ := cell_int Tryd.underlying3 k10
    obtain ⟨c11, rfl, h11⟩ := cell_int Tryd.underlying3 k11
    obtain ⟨n12, rfl, h12⟩ := cell_int Tryd.underlying5 k12
    obtain ⟨c12, rfl⟩ := u8_has h12
    obtain ⟨n13, rfl, h13⟩ := cell_int Tryd.underlying5 k13
    obtain ⟨c13, rfl⟩ := u8_has h13
    obtain ⟨n14, rfl, h14⟩ := cell_int Tryd.underlying5 k14
    obtain ⟨c14, rfl⟩ := u8_has h14
    obtain ⟨n15, rfl, h15⟩ := cell_int Tryd.underlying5 k15
    obtain ⟨c15, rfl⟩ := u8_has h15
    obtain ⟨n16, rfl, h16⟩ := cell_int Tryd.underlying5 k16
    obtain ⟨c16, rfl⟩ := u8_has h16
    obtain ⟨n17, rfl, h17⟩ := cell_int Tryd.underlying5 k17
    obtain ⟨c17, rfl⟩ := u8_has h17
    obtain ⟨c18, rfl, h18⟩ := cell_int Tryd.underlying3 k18
    obtain ⟨c19, rfl, h19⟩ := cell_int Tryd.underlying3 k19
    obtain ⟨c20, rfl, h20⟩ := cell_int Tryd.underlying3 k20
    obtain ⟨c21, rfl, h21⟩ := cell_int Tryd.underlying3 k21
    obtain ⟨c22, rfl, h22⟩ := cell_int Tryd.underlying3 k22
    exact ⟨⟨⟨c0, ⟨c1, c2, c3, c4, c5, c6⟩, c7, c8, c9, c10⟩, ⟨c11, ⟨c12, c13, c14, c15, c16, c17⟩, c18, c19, c20, c21⟩, c22⟩, rfl⟩
end Go.Proofs.YteibhcocldihbaaDoor

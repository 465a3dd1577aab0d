/- An argument that is a struct or an array of plain cells, opened: each cell's kind. Openers: api.Addr. (Printed by tools/mkop7.py.) Openers: names, vectors. (Printed by tools/mkop7.py.) -/
import Derived.Test.YtkicbabfgahmkaaDoorRows
import Derived.WideShapes
import Derived.Handy
import Derived.Test.YtkicbabfgahmkaaDoorAd
import Derived.Test.YtkicbabfgahmkaaDoorPrio7
set_option linter.all false
namespace Go.Proofs.YtkicbabfgahmkaaDoor
section
variable {P : Program} {w : World} {r : Reach} {base : Nat}
theorem cell_int {t : TypeId} {v : Value} {k : IntKind} (ht : P.underlying t = some (.int k)) (h : Cell.okWide P w r base t v) : ∃ n, v = .int k n ∧ k.has n := by
  unfold Cell.okWide Cell.ok at h
  rw [ht] at h
  cases v with
  | int k' n => obtain ⟨rfl, hn⟩ := h; exact ⟨n, rfl, hn⟩
  | _ => exact h.elim
theorem cell_bool {t : TypeId} {v : Value} (ht : P.underlying t = some .bool) (h : Cell.okWide P w r base t v) : ∃ b, v = .bool b := by
  unfold Cell.okWide Cell.ok at h
  rw [ht] at h
  cases v with
  | bool b => exact ⟨b, rfl⟩
  | _ => exact h.elim
theorem cell_string {t : TypeId} {v : Value} (ht : P.underlying t = some .string) (h : Cell.okWide P w r base t v) : ∃ s : List UInt8, v = .string ⟨s.toArray⟩ ∧ s.length ≤ 9223372036854775807 := by
  unfold Cell.okWide Cell.ok at h
  rw [ht] at h
  cases v with
  | string s =>
    obtain ⟨⟨l⟩⟩ := s
    have e : IntKind.i64.max = 9223372036854775807 := by rfl
    refine ⟨l, rfl, ?_⟩
    have h' : ((⟨⟨l⟩⟩ : ByteArray).size : Int) ≤ IntKind.i64.max := h
    rw [e] at h'
    have h2 : (⟨⟨l⟩⟩ : ByteArray).size = l.length := rfl
    omega
  | _ => exact h.elim
theorem flatV {t : TypeId} {v : Value} {ts : List TypeId} (hu : (∃ fs, P.underlying t = some (.struct fs)) ∨ ∃ n e, P.underlying t = some (.array n e)) (hts : P.cellTypes P.depth t = some ts) (hC : P.cellsOf t = ts.length)
    (h : Value.okWide P w r base t v) : ∃ cs : List Value, v = .agg cs.toArray ∧ cs.length = ts.length ∧ ∀ (i : Nat) (u : TypeId), ts[i]? = some u → ∃ c, cs[i]? = some c ∧ Cell.okWide P w r base u c := by
  have h' : ∃ cs : Array Value, v = .agg cs ∧ cs.size = P.cellsOf t ∧ Row.okWide P w r base t cs := by
    unfold Value.okWide at h
    rcases hu with ⟨fs, hu⟩ | ⟨n, e, hu⟩
    · rw [hu] at h; exact h
    · rw [hu] at h; exact h
  obtain ⟨⟨cs⟩, rfl, hsz, ts', hts', _, hi⟩ := h'
  rw [hts] at hts'
  obtain rfl := Option.some.inj hts'
  have hsz' : cs.length = ts.length := hsz.trans hC
  refine ⟨cs, rfl, hsz', fun i u hiu => ?_⟩
  have hlt : i < ts.length := (List.getElem?_eq_some_iff.1 hiu).1
  have hlt' : i < cs.length := by omega
  obtain ⟨u', hu', hc⟩ := hi i cs[i] (by simp [hlt'])
  rw [Nat.mod_eq_of_lt hlt, hiu] at hu'
  obtain rfl := Option.some.inj hu'
  exact ⟨cs[i], List.getElem?_eq_getElem hlt', hc⟩
end
end Go.Proofs.YtkicbabfgahmkaaDoor
namespace Go.Proofs.YtkicbabfgahmkaaDoor
open Go.RowKit
theorem u8_has {n : Int} (h : IntKind.u8.has n) : ∃ b : UInt8, n = b.toNat := by
  have h2 : 0 ≤ n ∧ n ≤ 255 := h
  refine ⟨UInt8.ofNat n.toNat, ?_⟩
  rw [UInt8.toNat_ofNat']
  omega
set_option maxRecDepth 100000 in
theorem addr_types : Tryd.prog.cellTypes Tryd.prog.depth 23 = some [5, 5, 5, 5, 5, 5] := by kernel_rfl
theorem addr_struct : ∃ n e, Tryd.prog.underlying 23 = some (.array n e) := ⟨_, _, Tryd.underlying23⟩
set_option maxRecDepth 100000 in
set_option maxHeartbeats 1000000 in
theorem open_addr {H : Type} {enc : TypeId × Value → H} {w : World} {r : Reach} {base : Nat} {b0 : Nat} {sp : Nat → Bool} {hd : Bool} {v : Value} {d : DataW H} {ps : List MemPlace}
    (h : Value.okWide Tryd.prog w r base 23 v) (_ : DataW.Trod enc Tryd.prog w b0 sp hd 23 v d ps) : ∃ x : Ad, v = .agg x.vals.toArray := by
  obtain ⟨cs, rfl, hl, hc⟩ := flatV (.inr addr_struct) addr_types (by kernel_rfl) h
  match cs, hl with
  | [z0, z1, z2, z3, z4, z5], _ =>
    obtain ⟨x0, e0, k0⟩ := hc 0 5 rfl
    obtain ⟨x1, e1, k1⟩ := hc 1 5 rfl
    obtain ⟨x2, e2, k2⟩ := hc 2 5 rfl
    obtain ⟨x3, e3, k3⟩ := hc 3 5 rfl
    obtain ⟨x4, e4, k4⟩ := hc 4 5 rfl
    obtain ⟨x5, e5, k5⟩ := hc 5 5 rfl
    obtain rfl : z0 = x0 := Option.some.inj e0
    obtain rfl : z1 = x1 := Option.some.inj e1
    obtain rfl : z2 = x2 := Option.some.inj e2
    obtain rfl : z3 = x3 := Option.some.inj e3
    obtain rfl : z4 = x4 := Option.some.inj e4
    obtain rfl : z5 = x5 := Option.some.inj e5
    obtain ⟨n0, rfl, h0⟩ := cell_int Tryd.underlying5 k0
    obtain ⟨c0, rfl⟩ := u8_has h0
    obtain ⟨n1, rfl, h1⟩ := cell_int Tryd.underlying5 k1
    obtain ⟨c1, rfl⟩ := u8_has h1
    obtain ⟨n2, rfl, h2⟩ := cell_int Tryd.underlying5 k2
    obtain ⟨c2, rfl⟩ := u8_has h2
    obtain ⟨n3, rfl, h3⟩ := cell_int Tryd.underlying5 k3
    obtain ⟨c3, rfl⟩ := u8_has h3
    obtain ⟨n4, rfl, h4⟩ := cell_int Tryd.underlying5 k4
    obtain ⟨c4, rfl⟩ := u8_has h4
    obtain ⟨n5, rfl, h5⟩ := cell_int Tryd.underlying5 k5
    obtain ⟨c5, rfl⟩ := u8_has h5
    exact ⟨⟨c0, c1, c2, c3, c4, c5⟩, rfl⟩
end Go.Proofs.YtkicbabfgahmkaaDoor
namespace Go.Proofs.YtkicbabfgahmkaaDoor
open Go.RowKit
set_option maxRecDepth 100000 in
theorem bridge_types : Tryd.prog.cellTypes Tryd.prog.depth 53 = some [3, 3, 5, 5, 5, 5, 5, 5] := by kernel_rfl
theorem bridge_struct : ∃ fs, Tryd.prog.underlying 53 = some (.struct fs) := ⟨_, Tryd.underlying53⟩
set_option maxRecDepth 100000 in
set_option maxHeartbeats 1000000 in
theorem open_bridge {H : Type} {enc : TypeId × Value → H} {w : World} {r : Reach} {base : Nat} {b0 : Nat} {sp : Nat → Bool} {hd : Bool} {v : Value} {d : DataW H} {ps : List MemPlace}
    (h : Value.okWide Tryd.prog w r base 53 v) (_ : DataW.Trod enc Tryd.prog w b0 sp hd 53 v d ps) : ∃ x : Br, v = .agg x.vals.toArray := by
  obtain ⟨cs, rfl, hl, hc⟩ := flatV (.inl bridge_struct) bridge_types (by kernel_rfl) h
  match cs, hl with
  | [z0, z1, z2, z3, z4, z5, z6, z7], _ =>
    obtain ⟨x0, e0, k0⟩ := hc 0 3 rfl
    obtain ⟨x1, e1, k1⟩ := hc 1 3 rfl
    obtain ⟨x2, e2, k2⟩ := hc 2 5 rfl
    obtain ⟨x3, e3, k3⟩ := hc 3 5 rfl
    obtain ⟨x4, e4, k4⟩ := hc 4 5 rfl
    obtain ⟨x5, e5, k5⟩ := hc 5 5 rfl
    obtain ⟨x6, e6, k6⟩ := hc 6 5 rfl
    obtain ⟨x7, e7, k7⟩ := hc 7 5 rfl
    obtain rfl : z0 = x0 := Option.some.inj e0
    obtain rfl : z1 = x1 := Option.some.inj e1
    obtain rfl : z2 = x2 := Option.some.inj e2
    obtain rfl : z3 = x3 := Option.some.inj e3
    obtain rfl : z4 = x4 := Option.some.inj e4
    obtain rfl : z5 = x5 := Option.some.inj e5
    obtain rfl : z6 = x6 := Option.some.inj e6
    obtain rfl : z7 = x7 := Option.some.inj e7
    obtain ⟨c0, rfl, h0⟩ := cell_int Tryd.underlying3 k0
    obtain ⟨c1, rfl, h1⟩ := cell_int Tryd.underlying3 k1
    obtain ⟨n2, rfl, h2⟩ := cell_int Tryd.underlying5 k2
    obtain ⟨c2, rfl⟩ := u8_has h2
    obtain ⟨n3, rfl, h3⟩ := cell_int Tryd.underlying5 k3
    obtain ⟨c3, rfl⟩ := u8_has h3
    obtain ⟨n4, rfl, h4⟩ := cell_int Tryd.underlying5 k4
    obtain ⟨c4, rfl⟩ := u8_has h4
    obtain ⟨n5, rfl, h5⟩ := cell_int Tryd.underlying5 k5
    obtain ⟨c5, rfl⟩ := u8_has h5
    obtain ⟨n6, rfl, h6⟩ := cell_int Tryd.underlying5 k6
    obtain ⟨c6, rfl⟩ := u8_has h6
    obtain ⟨n7, rfl, h7⟩ := cell_int Tryd.underlying5 k7
    obtain ⟨c7, rfl⟩ := u8_has h7
    exact ⟨⟨c0, c1, ⟨c2, c3, c4, c5, c6, c7⟩⟩, rfl⟩
set_option maxRecDepth 100000 in
theorem port_types : Tryd.prog.cellTypes Tryd.prog.depth 55 = some [3, 3] := by kernel_rfl
theorem port_struct : ∃ fs, Tryd.prog.underlying 55 = some (.struct fs) := ⟨_, Tryd.underlying55⟩
set_option maxRecDepth 100000 in
set_option maxHeartbeats 1000000 in
theorem open_port {H : Type} {enc : TypeId × Value → H} {w : World} {r : Reach} {base : Nat} {b0 : Nat} {sp : Nat → Bool} {hd : Bool} {v : Value} {d : DataW H} {ps : List MemPlace}
    (h : Value.okWide Tryd.prog w r base 55 v) (_ : DataW.Trod enc Tryd.prog w b0 sp hd 55 v d ps) : ∃ x : Pt, v = .agg x.vals.toArray := by
  obtain ⟨cs, rfl, hl, hc⟩ := flatV (.inl port_struct) port_types (by kernel_rfl) h
  match cs, hl with
  | [z0, z1], _ =>
    obtain ⟨x0, e0, k0⟩ := hc 0 3 rfl
    obtain ⟨x1, e1, k1⟩ := hc 1 3 rfl
    obtain rfl : z0 = x0 := Option.some.inj e0
    obtain rfl : z1 = x1 := Option.some.inj e1
    obtain ⟨c0, rfl, h0⟩ := cell_int Tryd.underlying3 k0
    obtain ⟨c1, rfl, h1⟩ := cell_int Tryd.underlying3 k1
    exact ⟨⟨c0, c1⟩, rfl⟩
set_option maxRecDepth 100000 in
theorem vector_types : Tryd.prog.cellTypes Tryd.prog.depth 71 = some [3, 3, 5, 5, 5, 5, 5, 5, 3, 3, 3, 5, 5, 5, 5, 5, 5, 3, 3, 3, 3] := by kernel_rfl
theorem vector_struct : ∃ fs, Tryd.prog.underlying 71 = some (.struct fs) := ⟨_, Tryd.underlying71⟩
set_option maxRecDepth 100000 in
set_option maxHeartbeats 1000000 in
theorem open_vector {H : Type} {enc : TypeId × Value → H} {w : World} {r : Reach} {base : Nat} {b0 : Nat} {sp : Nat → Bool} {hd : Bool} {v : Value} {d : DataW H} {ps : List MemPlace}
    (h : Value.okWide Tryd.prog w r base 71 v) (_ : DataW.Trod enc Tryd.prog w b0 sp hd 71 v d ps) : ∃ x : Vec, v = .agg x.vals.toArray := by
  obtain ⟨cs, rfl, hl, hc⟩ := flatV (.inl vector_struct) vector_types (by kernel_rfl) h
  match cs, hl with
  | [z0, z1, z2, z3, z4, z5, z6, z7, z8, z9, z10, z11, z12, z13, z14, z15, z16, z17, z18, z19, z20], _ =>
    obtain ⟨x0, e0, k0⟩ := hc 0 3 rfl
    obtain ⟨x1, e1, k1⟩ := hc 1 3 rfl
    obtain ⟨x2, e2, k2⟩ := hc 2 5 rfl
    obtain ⟨x3, e3, k3⟩ := hc 3 5 rfl
    obtain ⟨x4, e4, k4⟩ := hc 4 5 rfl
    obtain ⟨x5, e5, k5⟩ := hc 5 5 rfl
    obtain ⟨x6, e6, k6⟩ := hc 6 5 rfl
    obtain ⟨x7, e7, k7⟩ := hc 7 5 rfl
    obtain ⟨x8, e8, k8⟩ := hc 8 3 rfl
    obtain ⟨x9, e9, k9⟩ := hc 9 3 rfl
    obtain ⟨x10, e10, k10⟩ := hc 10 3 rfl
    obtain ⟨x11, e11, k11⟩ := hc 11 5 rfl
    obtain ⟨x12, e12, k12⟩ := hc 12 5 rfl
    obtain ⟨x13, e13, k13⟩ := hc 13 5 rfl
    obtain ⟨x14, e14, k14⟩ := hc 14 5 rfl
    obtain ⟨x15, e15, k15⟩ := hc 15 5 rfl
    obtain ⟨x16, e16, k16⟩ := hc 16 5 rfl
    obtain ⟨x17, e17, k17⟩ := hc 17 3 rfl
    obtain ⟨x18, e18, k18⟩ := hc 18 3 rfl
    obtain ⟨x19, e19, k19⟩ := hc 19 3 rfl
    obtain ⟨x20, e20, k20⟩ := hc 20 3 rfl
    obtain rfl : z0 = x0 := Option.some.inj e0
    obtain rfl : z1 = x1 := Option.some.inj e1
    obtain rfl : z2 = x2 := Option.some.inj e2
    obtain rfl : z3 = x3 := Option.some.inj e3
    obtain rfl : z4 = x4 := Option.some.inj e4
    obtain rfl : z5 = x5 := Option.some.inj e5
    obtain rfl : z6 = x6 := Option.some.inj e6
    obtain rfl : z7 = x7 := Option.some.inj e7
    obtain rfl : z8 = x8 := Option.some.inj e8
    obtain rfl : z9 = x9 := Option.some.inj e9
    obtain rfl : z10 = x10 := Option.some.inj e10
    obtain rfl : z11 = x11 := Option.some.inj e11
    obtain rfl : z12 = x12 := Option.some.inj e12
    obtain rfl : z13 = x13 := Option.some.inj e13
    obtain rfl : z14 = x14 := Option.some.inj e14
    obtain rfl : z15 = x15 := Option.some.inj e15
    obtain rfl : z16 = x16 := Option.some.inj e16
    obtain rfl : z17 = x17 := Option.some.inj e17
    obtain rfl : z18 = x18 := Option.some.inj e18
    obtain rfl : z19 = x19 := Option.some.inj e19
    obtain rfl : z20 = x20 := Option.some.inj e20
    obtain ⟨c0, rfl, h0⟩ := cell_int Tryd.underlying3 k0
    obtain ⟨c1, rfl, h1⟩ := cell_int Tryd.underlying3 k1
    obtain ⟨n2, rfl, h2⟩ := cell_int Tryd.underlying5 k2
    obtain ⟨c2, rfl⟩ := u8_has h2
    obtain ⟨n3, rfl, h3⟩ := cell_int Tryd.underlying5 k3
    obtain ⟨c3, rfl⟩ := u8_has h3
    obtain ⟨n4, rfl, h4⟩ := cell_int Tryd.underlying5 k4
    obtain ⟨c4, rfl⟩ := u8_has h4
    obtain ⟨n5, rfl, h5⟩ := cell_int Tryd.underlying5 k5
    obtain ⟨c5, rfl⟩ := u8_has h5
    obtain ⟨n6, rfl, h6⟩ := cell_int Tryd.underlying5 k6
    obtain ⟨c6, rfl⟩ := u8_has h6
    obtain ⟨n7, rfl, h7⟩ := cell_int Tryd.underlying5 k7
    obtain ⟨c7, rfl⟩ := u8_has h7
    obtain ⟨c8, rfl, h8⟩ := cell_int Tryd.underlying3 k8
    obtain ⟨c9, rfl, h9⟩ := cell_int Tryd.underlying3 k9
    obtain ⟨c10, rfl, h10⟩ := cell_int Tryd.underlying3 k10
    obtain ⟨n11, rfl, h11⟩ := cell_int Tryd.underlying5 k11
    obtain ⟨c11, rfl⟩ := u8_has h11
    obtain ⟨n12, rfl, h12⟩ := cell_int Tryd.underlying5 k12
    obtain ⟨c12, rfl⟩ := u8_has h12
    obtain ⟨n13, rfl, h13⟩ := cell_int Tryd.underlying5 k13
    obtain ⟨c13, rfl⟩ := u8_has h13
    obtain ⟨n14, rfl, h14⟩ := cell_int Tryd.underlying5 k14
    obtain ⟨c14, rfl⟩ := u8_has h14
    obtain ⟨n15, rfl, h15⟩ := cell_int Tryd.underlying5 k15
    obtain ⟨c15, rfl⟩ := u8_has h15
    obtain ⟨n16, rfl, h16⟩ := cell_int Tryd.underlying5 k16
    obtain ⟨c16, rfl⟩ := u8_has h16
    obtain ⟨c17, rfl, h17⟩ := cell_int Tryd.underlying3 k17
    obtain ⟨c18, rfl, h18⟩ := cell_int Tryd.underlying3 k18
    obtain ⟨c19, rfl, h19⟩ := cell_int Tryd.underlying3 k19
    obtain ⟨c20, rfl, h20⟩ := cell_int Tryd.underlying3 k20
    exact ⟨⟨⟨c0, c1, ⟨c2, c3, c4, c5, c6, c7⟩⟩, c8, ⟨c9, c10, ⟨c11, c12, c13, c14, c15, c16⟩⟩, ⟨c17, c18⟩, ⟨c19, c20⟩⟩, rfl⟩
end Go.Proofs.YtkicbabfgahmkaaDoor

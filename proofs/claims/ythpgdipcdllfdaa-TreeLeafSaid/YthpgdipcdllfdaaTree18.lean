/- keep.grown: a fact. -/
import Derived.Test.YthpgdipcdllfdaaTree17
import Derived.Deep.RegionHeld3
import Derived.Deep.RegionWith
namespace Go.Proofs.Ythpgdipcdllfdaa
open Go.RowKit
set_option maxRecDepth 100000 in
set_option maxHeartbeats 4000000 in
theorem grown_any (w : World) :
    Calls Try.prog 14 #[] w fun e w' => e = .returned (.bool true) ∧ Below w.heap.size w w' := by
  go_enter Try.func14, Try.ntmps14
  go_upto_region 2 with (fail)
  have hW : ∀ W X Y : World, X = w.alloc (.cells ((gN1.ports.map Mem.vals).flatten).toArray 37) → Y = X.alloc (.cells ((gN2.ports.map Mem.vals).flatten).toArray 37) →
      W = Y.alloc (.cells (gN1.vals (.slice (some ⟨w.heap.size, 0, none⟩) 2 2) ++ gN2.vals (.slice (some ⟨w.heap.size + 1, 0, none⟩) 2 2)).toArray 32) →
      NodesIn W W.heap.size (some ⟨w.heap.size + 1 + 1, 0, none⟩) [(gN1, .slice (some ⟨w.heap.size, 0, none⟩) 2 2), (gN2, .slice (some ⟨w.heap.size + 1, 0, none⟩) 2 2)] ∧ Blk W (w.heap.size + 1 + 1) 32 (gN1.vals (.slice (some ⟨w.heap.size, 0, none⟩) 2 2) ++ gN2.vals (.slice (some ⟨w.heap.size + 1, 0, none⟩) 2 2)) ∧ Below w.heap.size w W := by
    rintro W X Y rfl rfl rfl
    obtain ⟨b0, b1, hb, hl⟩ := two_blks w ((gN1.ports.map Mem.vals).flatten) ((gN2.ports.map Mem.vals).flatten) 37 37 _ rfl
    have hs : ((w.alloc (.cells ((gN1.ports.map Mem.vals).flatten).toArray 37)).alloc (.cells ((gN2.ports.map Mem.vals).flatten).toArray 37)).heap.size = w.heap.size + 1 + 1 := by simp
    have hn := Blk.new ((w.alloc (.cells ((gN1.ports.map Mem.vals).flatten).toArray 37)).alloc (.cells ((gN2.ports.map Mem.vals).flatten).toArray 37)) (gN1.vals (.slice (some ⟨w.heap.size, 0, none⟩) 2 2) ++ gN2.vals (.slice (some ⟨w.heap.size + 1, 0, none⟩) 2 2)) 32
    have hb2 := (Below.refl _ ((w.alloc (.cells ((gN1.ports.map Mem.vals).flatten).toArray 37)).alloc (.cells ((gN2.ports.map Mem.vals).flatten).toArray 37))).alloc (Nat.le_refl _) (.cells (gN1.vals (.slice (some ⟨w.heap.size, 0, none⟩) 2 2) ++ gN2.vals (.slice (some ⟨w.heap.size + 1, 0, none⟩) 2 2)).toArray 32)
    rw [hs] at hn
    exact ⟨grown_in (w := w) (b0.below hb2 (by omega)) (b1.below hb2 (by omega)) hn, hn, hb.trans (hb2.mono hb.size)⟩
  refine wp_at (W := ((w.alloc (.cells ((gN1.ports.map Mem.vals).flatten).toArray 37)).alloc (.cells ((gN2.ports.map Mem.vals).flatten).toArray 37)).alloc (.cells (gN1.vals (.slice (some ⟨w.heap.size, 0, none⟩) 2 2) ++ gN2.vals (.slice (some ⟨w.heap.size + 1, 0, none⟩) 2 2)).toArray 32)) ?heq ?_
  case heq => rfl
  have h3 := hW _ _ _ rfl rfl rfl
  clear hW
  generalize ((w.alloc (.cells ((gN1.ports.map Mem.vals).flatten).toArray 37)).alloc (.cells ((gN2.ports.map Mem.vals).flatten).toArray 37)).alloc (.cells (gN1.vals (.slice (some ⟨w.heap.size, 0, none⟩) 2 2) ++ gN2.vals (.slice (some ⟨w.heap.size + 1, 0, none⟩) 2 2)).toArray 32) = W at *
  obtain ⟨hN, hB, hb⟩ := h3
  have hR : Calls Try.prog 19 #[.slice (some ⟨w.heap.size + 1 + 1, 0, none⟩) 2 2] W (GrownRol W) := (roles_any _ _ 2 2 rfl (by decide) (by decide) W hN grown_ok grown_ports).mono fun e w' h => grown_rol h
  have hS := fun W' (hb' : Below W.heap.size W W') => (solve_any _ _ 2 2 rfl (by decide) (by decide) W' ((hN.below hb' (Nat.le_refl _)).imp hb'.size) grown_ok grown_ports).mono fun e w' h => grown_sol h
  have HR := Lib.hid hR
  have HS := Lib.hid hS
  have HB := Lib.hid hB
  have lB : w.heap.size + 1 + 1 < W.heap.size := hB.lt
  clear hR hS hN hB
  generalize w.heap.size + 1 + 1 = PN at *
  go_upto_region 4 with (first
    | ((with_reducible refine HR.out.mono ?_)
       rintro e w4 ⟨gO, cO, x0, x1, rfl, lO, h0, h1, r0, r1, hb4⟩
       have hS := HS.out w4 hb4)
    | ((with_reducible refine hS.mono ?_)
       rintro e w5 ⟨gV, cV, rfl, lV, rV, hb5⟩
       skip)
    )
  obtain ⟨g0, c0, rfl, hc0, l0, r0⟩ := r0
  obtain ⟨g1, c1, rfl, hc1, l1, r1⟩ := r1
  have hB5 := Blk.below HB.out (hb4.trans (hb5.mono hb4.size)) lB
  have hb6 := hb.trans ((hb4.trans (hb5.mono hb4.size)).mono hb.size)
  have lB5 := hB5.lt
  have e0 : ∀ X, Below w5.heap.size w5 X → X.cell? ⟨gO, 0, none⟩ = some (.slice (some ⟨g0, 0, none⟩) 2 c0) := fun X hX => laterc (laterc h0 hb5 lO) hX (Nat.lt_of_lt_of_le lO hb5.size)
  have e1 : ∀ X, Below w5.heap.size w5 X → X.cell? ⟨gO, 1, none⟩ = some (.slice (some ⟨g1, 0, none⟩) 2 c1) := fun X hX => laterc (laterc h1 hb5 lO) hX (Nat.lt_of_lt_of_le lO hb5.size)
  have f0 : Hid (∀ X, Below w5.heap.size w5 X → ∀ j, j < 2 → X.cell? ⟨g0, 0 + j, none⟩ = some (.int .i64 (([1, 1] : List Int).getD j 0))) := Lib.hid fun X hX j hj => by rw [Nat.zero_add]; exact laterc (laterc (r0 j hj) hb5 l0) hX (Nat.lt_of_lt_of_le l0 hb5.size)
  have f1 : Hid (∀ X, Below w5.heap.size w5 X → ∀ j, j < 2 → X.cell? ⟨g1, 0 + j, none⟩ = some (.int .i64 (([2, 3] : List Int).getD j 0))) := Lib.hid fun X hX j hj => by rw [Nat.zero_add]; exact laterc (laterc (r1 j hj) hb5 l1) hX (Nat.lt_of_lt_of_le l1 hb5.size)
  have v8 : ∀ X, Below w5.heap.size w5 X → X.cell? ⟨gV, 29, none⟩ = some (.int .i64 7) := fun X hX => laterc (rV 8 _ rfl) hX lV
  have vr : ∀ X, Below w5.heap.size w5 X → X.rangeAt gV 21 gV2.root.vals := fun X hX j u hu => laterc (rV j u (by
    have hj : j < gV2.root.vals.length := by
      rcases Nat.lt_or_ge j gV2.root.vals.length with h | h
      · exact h
      · rw [List.getElem?_eq_none h] at hu; cases hu
    unfold Vec.vals
    rw [List.getElem?_append_left hj]; exact hu)) hX lV
  have nr : ∀ X, Below w5.heap.size w5 X → X.rangeAt PN 0 gV2.root.vals := fun X hX j u hu => laterc ((by
    have hj : j < gN1.br.vals.length := by
      rcases Nat.lt_or_ge j gN1.br.vals.length with h | h
      · exact h
      · rw [show gV2.root.vals = gN1.br.vals from rfl, List.getElem?_eq_none h] at hu; cases hu
    rw [Nat.zero_add, hB5.box.cell j, List.getElem?_toArray]
    unfold Node.vals
    rw [List.append_assoc, List.getElem?_append_left hj]; exact hu)) hX lB5
  clear h0 h1 r0 r1 rV hB5 HB HR HS hS hb hb4 hb5 lO l0 l1 lV lB lB5 hc0 hc1
  have vr0 : ∀ X, Below w5.heap.size w5 X → X.cell? ⟨gV, 21, none⟩ = some (.int .i64 0) := fun X hX => vr X hX 0 _ rfl
  have vr1 : ∀ X, Below w5.heap.size w5 X → X.cell? ⟨gV, 22, none⟩ = some (.int .i64 0) := fun X hX => vr X hX 1 _ rfl
  have vr2 : ∀ X, Below w5.heap.size w5 X → X.cell? ⟨gV, 23, none⟩ = some (.int .u8 0) := fun X hX => vr X hX 2 _ rfl
  have vr3 : ∀ X, Below w5.heap.size w5 X → X.cell? ⟨gV, 24, none⟩ = some (.int .u8 1) := fun X hX => vr X hX 3 _ rfl
  have vr4 : ∀ X, Below w5.heap.size w5 X → X.cell? ⟨gV, 25, none⟩ = some (.int .u8 0) := fun X hX => vr X hX 4 _ rfl
  have vr5 : ∀ X, Below w5.heap.size w5 X → X.cell? ⟨gV, 26, none⟩ = some (.int .u8 0) := fun X hX => vr X hX 5 _ rfl
  have vr6 : ∀ X, Below w5.heap.size w5 X → X.cell? ⟨gV, 27, none⟩ = some (.int .u8 0) := fun X hX => vr X hX 6 _ rfl
  have vr7 : ∀ X, Below w5.heap.size w5 X → X.cell? ⟨gV, 28, none⟩ = some (.int .u8 0) := fun X hX => vr X hX 7 _ rfl
  have nr0 : ∀ X, Below w5.heap.size w5 X → X.cell? ⟨PN, 0, none⟩ = some (.int .i64 0) := fun X hX => by have := nr X hX 0 _ rfl; rwa [Nat.zero_add] at this
  have nr1 : ∀ X, Below w5.heap.size w5 X → X.cell? ⟨PN, 1, none⟩ = some (.int .i64 0) := fun X hX => by have := nr X hX 1 _ rfl; rwa [Nat.zero_add] at this
  have nr2 : ∀ X, Below w5.heap.size w5 X → X.cell? ⟨PN, 2, none⟩ = some (.int .u8 0) := fun X hX => by have := nr X hX 2 _ rfl; rwa [Nat.zero_add] at this
  have nr3 : ∀ X, Below w5.heap.size w5 X → X.cell? ⟨PN, 3, none⟩ = some (.int .u8 1) := fun X hX => by have := nr X hX 3 _ rfl; rwa [Nat.zero_add] at this
  have nr4 : ∀ X, Below w5.heap.size w5 X → X.cell? ⟨PN, 4, none⟩ = some (.int .u8 0) := fun X hX => by have := nr X hX 4 _ rfl; rwa [Nat.zero_add] at this
  have nr5 : ∀ X, Below w5.heap.size w5 X → X.cell? ⟨PN, 5, none⟩ = some (.int .u8 0) := fun X hX => by have := nr X hX 5 _ rfl; rwa [Nat.zero_add] at this
  have nr6 : ∀ X, Below w5.heap.size w5 X → X.cell? ⟨PN, 6, none⟩ = some (.int .u8 0) := fun X hX => by have := nr X hX 6 _ rfl; rwa [Nat.zero_add] at this
  have nr7 : ∀ X, Below w5.heap.size w5 X → X.cell? ⟨PN, 7, none⟩ = some (.int .u8 0) := fun X hX => by have := nr X hX 7 _ rfl; rwa [Nat.zero_add] at this
  have EQ0 : ∀ Y, Below w5.heap.size w5 Y → Calls Try.prog 21 #[.slice (some ⟨g0, 0, none⟩) 2 c0, .slice (some ⟨Y.heap.size, 0, none⟩) 2 2] (Y.alloc (.cells #[.int .i64 1, .int .i64 1] 3)).drew fun e w' => e = .returned (.bool true) ∧ Below w5.heap.size w5 w' := fun Y hY => by
    have hY2 := (hY.alloc hY.size (.cells #[.int .i64 1, .int .i64 1] 3)).drew
    refine (Try.slices_Equal_int g0 0 2 c0 Y.heap.size 0 2 2 [1, 1] [1, 1] _ (by decide) (by decide) (by decide) (by decide) (f0.out _ hY2) (fun j hj => ?_)).mono ?_
    · have := (one_box Y #[.int .i64 1, .int .i64 1] 3 _ rfl).1 (0 + j)
      refine Eq.trans this ?_
      have hj' : j < 2 := hj
      match j, hj' with
      | 0, _ => rfl
      | 1, _ => rfl
    · rintro e w' ⟨rfl, q, rfl⟩
      exact ⟨rfl, hY2.trans ⟨rfl, rfl, rfl, Nat.le_refl _, fun _ _ => rfl⟩⟩
  have EQ1 : ∀ Y, Below w5.heap.size w5 Y → Calls Try.prog 21 #[.slice (some ⟨g1, 0, none⟩) 2 c1, .slice (some ⟨Y.heap.size, 0, none⟩) 2 2] (Y.alloc (.cells #[.int .i64 2, .int .i64 3] 3)) fun e w' => e = .returned (.bool true) ∧ Below w5.heap.size w5 w' := fun Y hY => by
    have hY2 := hY.alloc hY.size (.cells #[.int .i64 2, .int .i64 3] 3)
    refine (Try.slices_Equal_int g1 0 2 c1 Y.heap.size 0 2 2 [2, 3] [2, 3] _ (by decide) (by decide) (by decide) (by decide) (f1.out _ hY2) (fun j hj => ?_)).mono ?_
    · have := (one_box Y #[.int .i64 2, .int .i64 3] 3 _ rfl).1 (0 + j)
      rw [this]
      have hj' : j < 2 := hj
      match j, hj' with
      | 0, _ => rfl
      | 1, _ => rfl
    · rintro e w' ⟨rfl, q, rfl⟩
      exact ⟨rfl, hY2.trans ⟨rfl, rfl, rfl, Nat.le_refl _, fun _ _ => rfl⟩⟩
  have EQ0' := Lib.hid EQ0
  have EQ1' := Lib.hid EQ1
  have hbe : ∀ (X : World), (binOp .eql 29 (.agg #[.int .i64 0, .int .i64 0, .int .u8 0, .int .u8 1, .int .u8 0, .int .u8 0, .int .u8 0, .int .u8 0]) (.agg #[.int .i64 0, .int .i64 0, .int .u8 0, .int .u8 1, .int .u8 0, .int .u8 0, .int .u8 0, .int .u8 0])).run Try.prog X = .ok (.bool true) X := fun X => br_eq gV2.root gV2.root X
  have hbg : ∀ (x y : Operand) (X : World), (eqGuard .eql 29 x y (.agg #[.int .i64 0, .int .i64 0, .int .u8 0, .int .u8 1, .int .u8 0, .int .u8 0, .int .u8 0, .int .u8 0]) (.agg #[.int .i64 0, .int .i64 0, .int .u8 0, .int .u8 1, .int .u8 0, .int .u8 0, .int .u8 0, .int .u8 0])).run Try.prog X = .ok () X := fun x y X => br_guard .eql gV2.root gV2.root x y X
  clear vr nr EQ0 EQ1 f0 f1
  go_region_held3 (fun X => Below w5.heap.size w5 X) (first
    | assumption
    | exact (Below.refl _ _).drew
    | (refine Below.drew ?_; exact Below.alloc (Below.refl _ _) (Nat.le_refl _) _)
    | (refine Below.alloc ?_ ?_ _ <;> first | assumption | exact Below.size (by assumption)))
    (first
      | (go_at_call_of 21 (Value.slice (some ⟨g0, 0, none⟩) 2 c0); refine (EQ0'.out w5 (Below.refl _ _)).mono ?_; rintro e w9 ⟨rfl, hb9⟩)
      | (go_at_call_of 21 (Value.slice (some ⟨g1, 0, none⟩) 2 c1); refine (EQ1'.out _ ?_).mono ?_; (· assumption); rintro e w9 ⟨rfl, hb9⟩))
  go_wp2_with fail
  go_ret
  exact ⟨rfl, hb6.trans (hb9.mono hb6.size)⟩
end Go.Proofs.Ythpgdipcdllfdaa

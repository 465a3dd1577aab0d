/- PauseAll, for an argument that came in. -/
import Derived.Test.YtidcjbanhdpkkaaPauseAll
import Derived.Test.YtidcjbanhdpkkaaOpen
namespace Go.Proofs.Ytidcjbanhdpkkaa
open Go.RowKit
def IsPause (v : Value) : Prop := ∃ (b : Bool) (en t0 t1 t2 t3 t4 t5 t6 t7 : Int), v = .agg #[.bool b, .int .i64 en, .int .i64 t0, .int .i64 t1, .int .i64 t2, .int .i64 t3, .int .i64 t4, .int .i64 t5, .int .i64 t6, .int .i64 t7]
set_option maxRecDepth 100000 in
theorem pause_types : Try.prog.cellTypes Try.prog.depth 24 = some [4, 3, 3, 3, 3, 3, 3, 3, 3, 3] := by kernel_rfl
theorem pause_struct : ∃ fs, Try.prog.underlying 24 = some (.struct fs) := ⟨_, Try.underlying24⟩
set_option maxRecDepth 100000 in
theorem open_pause {H : Type} {enc : TypeId × Value → H} {w : World} {r : Reach} {base : Nat} {b0 : Nat} {sp : Nat → Bool} {hd : Bool} {v : Value} {d : DataW H} {ps : List MemPlace}
    (h : Value.okWide Try.prog w r base 24 v) (_ : DataW.Trod enc Try.prog w b0 sp hd 24 v d ps) : ∃ _ : Unit, IsPause v := by
  obtain ⟨cs, rfl, hl, hc⟩ := flat_cells (.inl pause_struct) pause_types (by kernel_rfl) h
  match cs, hl with
  | [c0, c1, c2, c3, c4, c5, c6, c7, c8, c9], _ =>
    obtain ⟨x0, e0, k0⟩ := hc 0 4 rfl
    obtain ⟨x1, e1, k1⟩ := hc 1 3 rfl
    obtain ⟨x2, e2, k2⟩ := hc 2 3 rfl
    obtain ⟨x3, e3, k3⟩ := hc 3 3 rfl
    obtain ⟨x4, e4, k4⟩ := hc 4 3 rfl
    obtain ⟨x5, e5, k5⟩ := hc 5 3 rfl
    obtain ⟨x6, e6, k6⟩ := hc 6 3 rfl
    obtain ⟨x7, e7, k7⟩ := hc 7 3 rfl
    obtain ⟨x8, e8, k8⟩ := hc 8 3 rfl
    obtain ⟨x9, e9, k9⟩ := hc 9 3 rfl
    simp only [List.getElem?_cons_zero, List.getElem?_cons_succ, Option.some.injEq] at e0 e1 e2 e3 e4 e5 e6 e7 e8 e9
    subst e0 e1 e2 e3 e4 e5 e6 e7 e8 e9
    obtain ⟨b, rfl⟩ := cell_bool Try.underlying4 k0
    obtain ⟨n1, rfl, _⟩ := cell_int Try.underlying3 k1
    obtain ⟨n2, rfl, _⟩ := cell_int Try.underlying3 k2
    obtain ⟨n3, rfl, _⟩ := cell_int Try.underlying3 k3
    obtain ⟨n4, rfl, _⟩ := cell_int Try.underlying3 k4
    obtain ⟨n5, rfl, _⟩ := cell_int Try.underlying3 k5
    obtain ⟨n6, rfl, _⟩ := cell_int Try.underlying3 k6
    obtain ⟨n7, rfl, _⟩ := cell_int Try.underlying3 k7
    obtain ⟨n8, rfl, _⟩ := cell_int Try.underlying3 k8
    obtain ⟨n9, rfl, _⟩ := cell_int Try.underlying3 k9
    exact ⟨(), b, n1, n2, n3, n4, n5, n6, n7, n8, n9, rfl⟩
theorem law_PauseAll (v : Value) (_ : Unit) (c o : Int) (_ : (Lit.int .i64 c).wf = true) (_ : (Lit.int .i64 o).wf = true) (w : World) (h : IsPause v) :
    Calls Try.prog 3 #[v, .int .i64 c, .int .i64 o] w fun e w' => e = .returned (.bool true) ∧ Below w.heap.size w w' := by
  obtain ⟨b, en, t0, t1, t2, t3, t4, t5, t6, t7, rfl⟩ := h
  exact pauseAll b en t0 t1 t2 t3 t4 t5 t6 t7 c o w
end Go.Proofs.Ytidcjbanhdpkkaa

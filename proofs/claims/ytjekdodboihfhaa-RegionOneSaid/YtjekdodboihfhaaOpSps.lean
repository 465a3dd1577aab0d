/- Openers: []api.Span. (Turned from OpTks.) -/
import Derived.Test.YtjekdodboihfhaaOpenA
import Derived.Test.YtjekdodboihfhaaRg1
set_option linter.all false
namespace Go.Proofs.Ytjekdodboihfhaa
open Go.RowKit Go.ChangeShapes Go.WideShapes Go.Deep
section
variable {H : Type} {enc : TypeId × Value → H} {w : World} {base : Nat} {sp : Nat → Bool} {hd : Bool}
theorem cSp : Try.prog.cellsOf 37 = 3 := by kernel_rfl
theorem cSpI : Try.prog.cellsOf 3 = 1 := by kernel_rfl
set_option maxRecDepth 100000 in
theorem trod_span {fuel : Nat} {cs : List Value} {x : DataW H × List MemPlace} (h : DataW.trod enc Try.prog w base sp hd fuel 37 cs = some x) : ∃ b : Sp, cs = b.vals := by
  obtain ⟨xs, n, _, _, hl, hxl, hx⟩ := DataW.trod_struct Try.underlying37 h
  rw [cSp] at hl
  have hxl : xs.length = 3 := hxl
  have h0 : DataW.trod enc Try.prog w base sp hd n 3 ((cs.drop 0).take (Try.prog.cellsOf 3)) = xs[0]? := hx 0 _ rfl
  have h1 : DataW.trod enc Try.prog w base sp hd n 3 ((cs.drop 1).take (Try.prog.cellsOf 3)) = xs[1]? := hx 1 _ rfl
  have h2 : DataW.trod enc Try.prog w base sp hd n 3 ((cs.drop 2).take (Try.prog.cellsOf 3)) = xs[2]? := hx 2 _ rfl
  rw [List.getElem?_eq_getElem (by omega)] at h0 h1 h2
  rw [cSpI] at h0 h1 h2
  obtain ⟨n0, h0, _⟩ := int_at Try.underlying3 h0
  obtain ⟨n1, h1, _⟩ := int_at Try.underlying3 h1
  obtain ⟨n2, h2, _⟩ := int_at Try.underlying3 h2
  refine ⟨⟨n0, n1, n2⟩, ?_⟩
  match cs, hl with
  | [c0, c1, c2], _ =>
    simp only [List.getElem?_cons_zero, List.getElem?_cons_succ, Option.some.injEq] at h0 h1 h2
    rw [h0, h1, h2]; rfl
end
/-- Spans that came in. -/
def IsSps (w : World) (v : Value) (L : List Sp) : Prop := ∃ A cap, v = .slice A L.length cap ∧ L.length ≤ cap ∧ SlRow w w.heap.size 3 A (L.map Sp.vals)
set_option maxRecDepth 100000 in
theorem open_spans {H : Type} {enc : TypeId × Value → H} {w : World} {r : Reach} {base : Nat} {b0 : Nat} {sp : Nat → Bool} {hd : Bool} {v : Value} {d : DataW H} {ps : List MemPlace}
    (hval : Value.okWide Try.prog w r base 27 v) (h : DataW.Trod enc Try.prog w b0 sp hd 27 v d ps) : ∃ L, IsSps w v L := by
  obtain ⟨fuel, h⟩ := h
  obtain ⟨A, L, cap, e, hc, hm, hq, hr⟩ := slice_rows (α := Sp) Try.underlying27 cSp (by omega) Sp.vals (fun _ => True) (fun m cs y h => by
    obtain ⟨b, e⟩ := trod_span h
    exact ⟨b, e, trivial⟩) h
  exact ⟨L, A, cap, slice_val Try.underlying27 hval e, hc, hr⟩
end Go.Proofs.Ytjekdodboihfhaa

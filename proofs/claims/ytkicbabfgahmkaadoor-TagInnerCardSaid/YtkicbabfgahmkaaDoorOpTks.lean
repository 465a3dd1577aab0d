/- Openers: []api.Tag. -/
import Derived.Test.YtkicbabfgahmkaaDoorOpenA
import Derived.Test.YtkicbabfgahmkaaDoorTg1
set_option linter.all false
namespace Go.Proofs.YtkicbabfgahmkaaDoor
open Go.RowKit Go.ChangeShapes Go.WideShapes
theorem cTk : Tryd.prog.cellsOf 39 = 4 := by kernel_rfl
theorem cTkB : Tryd.prog.cellsOf 4 = 1 := by kernel_rfl
theorem cTkI : Tryd.prog.cellsOf 3 = 1 := by kernel_rfl
set_option maxRecDepth 100000 in
theorem trod_tag {H : Type} {enc : TypeId × Value → H} {w : World} {base : Nat} {sp : Nat → Bool} {hd : Bool} {fuel : Nat} {cs : List Value} {x : DataW H × List MemPlace} (h : DataW.trod enc Tryd.prog w base sp hd fuel 39 cs = some x) : ∃ b : Tk, cs = b.vals := by
  obtain ⟨xs, n, _, _, hl, hxl, hx⟩ := DataW.trod_struct Tryd.underlying39 h
  rw [cTk] at hl
  have hxl : xs.length = 4 := hxl
  have h0 : DataW.trod enc Tryd.prog w base sp hd n 4 ((cs.drop 0).take (Tryd.prog.cellsOf 4)) = xs[0]? := hx 0 _ rfl
  have h1 : DataW.trod enc Tryd.prog w base sp hd n 3 ((cs.drop 1).take (Tryd.prog.cellsOf 3)) = xs[1]? := hx 1 _ rfl
  have h2 : DataW.trod enc Tryd.prog w base sp hd n 4 ((cs.drop 2).take (Tryd.prog.cellsOf 4)) = xs[2]? := hx 2 _ rfl
  have h3 : DataW.trod enc Tryd.prog w base sp hd n 3 ((cs.drop 3).take (Tryd.prog.cellsOf 3)) = xs[3]? := hx 3 _ rfl
  rw [List.getElem?_eq_getElem (by omega)] at h0 h1 h2 h3
  rw [cTkB] at h0 h2
  rw [cTkI] at h1 h3
  obtain ⟨b0, h0, _⟩ := DataW.trod_bool Tryd.underlying4 h0
  obtain ⟨n1, h1, _⟩ := int_at Tryd.underlying3 h1
  obtain ⟨b2, h2, _⟩ := DataW.trod_bool Tryd.underlying4 h2
  obtain ⟨n3, h3, _⟩ := int_at Tryd.underlying3 h3
  have h0 := take_one h0
  have h2 := take_one h2
  refine ⟨⟨b0, n1, b2, n3⟩, ?_⟩
  match cs, hl with
  | [c0, c1, c2, c3], _ =>
    simp only [List.getElem?_cons_zero, List.getElem?_cons_succ, Option.some.injEq] at h0 h1 h2 h3
    rw [h0, h1, h2, h3]; rfl
/-- Tags that came in. -/
def IsTags (w : World) (v : Value) (L : List Tk) : Prop := ∃ A cap, v = .slice A L.length cap ∧ L.length ≤ cap ∧ SlRow w w.heap.size 4 A (L.map Tk.vals)
set_option maxRecDepth 100000 in
theorem open_tags {H : Type} {enc : TypeId × Value → H} {w : World} {r : Reach} {base : Nat} {b0 : Nat} {sp : Nat → Bool} {hd : Bool} {v : Value} {d : DataW H} {ps : List MemPlace}
    (hval : Value.okWide Tryd.prog w r base 50 v) (h : DataW.Trod enc Tryd.prog w b0 sp hd 50 v d ps) : ∃ L, IsTags w v L := by
  obtain ⟨fuel, h⟩ := h
  obtain ⟨A, L, cap, e, hc, hm, hq, hr⟩ := slice_rows (α := Tk) Tryd.underlying50 cTk (by omega) Tk.vals (fun _ => True) (fun m cs y h => by
    obtain ⟨b, e⟩ := trod_tag h
    exact ⟨b, e, trivial⟩) h
  exact ⟨L, A, cap, slice_val Tryd.underlying50 hval e, hc, hr⟩
end Go.Proofs.YtkicbabfgahmkaaDoor

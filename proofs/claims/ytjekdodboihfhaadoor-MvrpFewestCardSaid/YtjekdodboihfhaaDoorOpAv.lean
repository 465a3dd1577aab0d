/- Openers: []api.Attr. -/
import Derived.Test.YtjekdodboihfhaaDoorOpenA
import Derived.Test.YtjekdodboihfhaaDoorMv9
set_option linter.all false
namespace Go.Proofs.YtjekdodboihfhaaDoor
open Go.RowKit Go.ChangeShapes Go.WideShapes Go.Deep
instance : Inhabited ARow := ⟨⟨default, .nilIface⟩⟩
/-- An attribute that came in. -/
def InAv (w : World) (r : ARow) : Prop := r.a.evs.length ≤ 9223372036854775807 ∧ ∃ A cap, r.sv = .slice A r.a.evs.length cap ∧ r.a.evs.length ≤ cap ∧ SlRow w w.heap.size 1 A (intv r.a.evs)
section
variable {H : Type} {enc : TypeId × Value → H} {w : World} {base : Nat} {sp : Nat → Bool} {hd : Bool}
theorem cAv : Tryd.prog.cellsOf 38 = 3 := by kernel_rfl
theorem cAvB : Tryd.prog.cellsOf 4 = 1 := by kernel_rfl
theorem cAvI : Tryd.prog.cellsOf 3 = 1 := by kernel_rfl
theorem cAvS : Tryd.prog.cellsOf 36 = 1 := by kernel_rfl
set_option maxRecDepth 100000 in
theorem trod_attr {fuel : Nat} {cs : List Value} {x : DataW H × List MemPlace} (h : DataW.trod enc Tryd.prog w base sp hd fuel 38 cs = some x) : ∃ r : ARow, cs = r.vals ∧ InAv w r := by
  obtain ⟨xs, n, _, _, hl, hxl, hx⟩ := DataW.trod_struct Tryd.underlying38 h
  rw [cAv] at hl
  have hxl : xs.length = 3 := hxl
  have h0 : DataW.trod enc Tryd.prog w base sp hd n 4 ((cs.drop 0).take (Tryd.prog.cellsOf 4)) = xs[0]? := hx 0 _ rfl
  have h1 : DataW.trod enc Tryd.prog w base sp hd n 3 ((cs.drop 1).take (Tryd.prog.cellsOf 3)) = xs[1]? := hx 1 _ rfl
  have h2 : DataW.trod enc Tryd.prog w base sp hd n 36 ((cs.drop 2).take (Tryd.prog.cellsOf 36)) = xs[2]? := hx 2 _ rfl
  rw [List.getElem?_eq_getElem (by omega)] at h0 h1 h2
  rw [cAvB] at h0
  rw [cAvI] at h1
  rw [cAvS] at h2
  obtain ⟨b, h0, _⟩ := DataW.trod_bool Tryd.underlying4 h0
  have h0 := take_one h0
  obtain ⟨n1, h1, _⟩ := int_at Tryd.underlying3 h1
  obtain ⟨A1, L, cap, e, hc, hm, _, hr⟩ := slice_rows (α := Int) Tryd.underlying36 cAvI (by omega) (fun x => [Value.int .i64 x]) (fun _ => True) (fun m cs y h => by
    obtain ⟨k, h3, _⟩ := DataW.trod_int Tryd.underlying3 h
    exact ⟨k, h3, trivial⟩) h2
  have h2 := take_one e
  refine ⟨⟨⟨b, n1, L⟩, .slice A1 L.length cap⟩, ?_, hm, A1, cap, rfl, hc, hr⟩
  match cs, hl with
  | [c0, c1, c2], _ =>
    simp only [List.getElem?_cons_zero, List.getElem?_cons_succ, Option.some.injEq] at h0 h1 h2
    rw [h0, h1, h2]; rfl
end
/-- Attributes that came in. -/
def IsAvs (w : World) (v : Value) (R : List ARow) : Prop := ∃ A cap, v = .slice A R.length cap ∧ R.length ≤ cap ∧ R.length ≤ 9223372036854775807 ∧ AvsAt w R A ∧ ∀ r ∈ R, r.a.evs.length ≤ 9223372036854775807
set_option maxRecDepth 100000 in
theorem open_avs {H : Type} {enc : TypeId × Value → H} {w : World} {r : Reach} {base : Nat} {b0 : Nat} {sp : Nat → Bool} {hd : Bool} {v : Value} {d : DataW H} {ps : List MemPlace}
    (hval : Value.okWide Tryd.prog w r base 22 v) (h : DataW.Trod enc Tryd.prog w b0 sp hd 22 v d ps) : ∃ L, IsAvs w v L := by
  obtain ⟨fuel, h⟩ := h
  obtain ⟨A, L, cap, e, hc, hm, hq, hr⟩ := slice_rows (α := ARow) Tryd.underlying22 cAv (by omega) ARow.vals (InAv w) (fun m cs y h => trod_attr h) h
  exact ⟨L, A, cap, slice_val Tryd.underlying22 hval e, hc, hm, ⟨hr, fun r hr => (hq r hr).2⟩, fun r hr => (hq r hr).1⟩
end Go.Proofs.YtjekdodboihfhaaDoor

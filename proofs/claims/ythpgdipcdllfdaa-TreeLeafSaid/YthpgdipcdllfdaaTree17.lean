/- keep.grown: a fact. Its net in memory. -/
import Derived.Test.YthpgdipcdllfdaaTree16
namespace Go.Proofs.Ythpgdipcdllfdaa
open Go.RowKit
theorem own_cells {w : World} {base : Nat} {e : TypeId} {size n : Nat} {v : Value} {xs : List Value} (h : w.ownsRow base e size v n xs) (hn : 0 < n) :
    ∃ g c, v = .slice (some ⟨g, 0, none⟩) n c ∧ n ≤ c ∧ base ≤ g ∧ g < w.heap.size ∧ ∀ k, k < n * size → w.cell? ⟨g, k, none⟩ = xs[k]? := by
  rcases h.2 with ⟨_, h0⟩ | ⟨g, cap, cur, e1, e2, e3, e4, _, _, e7⟩
  · omega
  · have hB : Blk w g e cur.toList := by unfold Blk; simpa using e3
    refine ⟨g, cap, e1, e4, e2, hB.lt, fun k hk => ?_⟩
    rw [hB.box.cell k, List.getElem?_toArray, ← e7, List.getElem?_take, if_pos hk]
theorem rng_two {w : World} {g : Nat} {t : TypeId} {a b : List Value} {s : Nat} (h : Blk w g t (a ++ b)) (ha : a.length = s) : ∀ k (hk : k < [a, b].length), w.rangeAt g (0 + k * s) [a, b][k] := by
  intro k hk j v hv
  have hc := h.box.cell (0 + k * s + j)
  rw [List.getElem?_toArray] at hc
  simp only [List.length_cons, List.length_nil] at hk
  have hk2 : k = 0 ∨ k = 1 := by omega
  rcases hk2 with rfl | rfl
  · rw [hc]
    simp only [List.getElem_cons_zero] at hv
    have hj : j < a.length := by
      rcases Nat.lt_or_ge j a.length with h | h
      · exact h
      · rw [List.getElem?_eq_none h] at hv; cases hv
    rw [show 0 + 0 * s + j = j by omega, List.getElem?_append_left hj]; exact hv
  · rw [hc]
    simp only [List.getElem_cons_succ, List.getElem_cons_zero] at hv
    rw [List.getElem?_append_right (by omega), show 0 + 1 * s + j - a.length = j by omega]; exact hv
def gN1 : Node := ⟨⟨0, 0, ⟨0, 1, 0, 0, 0, 0⟩⟩, [⟨⟨0, 1⟩, 5, 1⟩, ⟨⟨0, 2⟩, 5, 2⟩]⟩
def gN2 : Node := ⟨⟨0, 0, ⟨0, 2, 0, 0, 0, 0⟩⟩, [⟨⟨0, 1⟩, 7, 1⟩, ⟨⟨0, 2⟩, 7, 2⟩]⟩
def gV1 : Vec := ⟨⟨0, 0, ⟨0, 1, 0, 0, 0, 0⟩⟩, 0, ⟨0, 0, ⟨0, 1, 0, 0, 0, 0⟩⟩, ⟨0, 0⟩, ⟨0, 0⟩⟩
def gV2 : Vec := ⟨⟨0, 0, ⟨0, 1, 0, 0, 0, 0⟩⟩, 7, ⟨0, 0, ⟨0, 1, 0, 0, 0, 0⟩⟩, ⟨0, 1⟩, ⟨0, 1⟩⟩
theorem grown_ok : okTo [gN1, gN2] 2 = true := by kernel_rfl
theorem grown_ports : PortsOk [gN1, gN2] := netAt_ports (by decide)
theorem grown_solve : solveM [gN1, gN2] = [gV1, gV2] := by kernel_rfl
theorem grown_roles : rolesM [gN1, gN2] = [[1, 1], [2, 3]] := by kernel_rfl
theorem grown_in {w W : World} {P : Nat} (h0 : Blk W P 37 (gN1.ports.map Mem.vals).flatten) (h1 : Blk W (P + 1) 37 (gN2.ports.map Mem.vals).flatten) (h2 : Blk W (P + 1 + 1) 32 (gN1.vals (.slice (some ⟨P, 0, none⟩) 2 2) ++ gN2.vals (.slice (some ⟨P + 1, 0, none⟩) 2 2))) :
    NodesIn W W.heap.size (some ⟨P + 1 + 1, 0, none⟩) [(gN1, .slice (some ⟨P, 0, none⟩) 2 2), (gN2, .slice (some ⟨P + 1, 0, none⟩) 2 2)] := by
  refine ⟨fun _ => ⟨P + 1 + 1, 0, rfl, h2.lt, rng_two h2 rfl⟩, fun x hx => ?_⟩
  rcases List.mem_cons.1 hx with rfl | hx
  · exact ⟨some ⟨P, 0, none⟩, 2, rfl, Nat.le_refl _, fun _ => ⟨P, 0, rfl, h0.lt, rng_two (s := 4) (a := Mem.vals ⟨⟨0, 1⟩, 5, 1⟩) (b := Mem.vals ⟨⟨0, 2⟩, 5, 2⟩) h0 rfl⟩⟩
  · rw [List.mem_singleton.1 hx]
    exact ⟨some ⟨P + 1, 0, none⟩, 2, rfl, Nat.le_refl _, fun _ => ⟨P + 1, 0, rfl, h1.lt, rng_two (s := 4) (a := Mem.vals ⟨⟨0, 1⟩, 7, 1⟩) (b := Mem.vals ⟨⟨0, 2⟩, 7, 2⟩) h1 rfl⟩⟩
def RowAt (w : World) (v : Value) (xs : List Int) : Prop := ∃ g c, v = .slice (some ⟨g, 0, none⟩) xs.length c ∧ xs.length ≤ c ∧ g < w.heap.size ∧ ∀ j, j < xs.length → w.cell? ⟨g, j, none⟩ = some (.int .i64 (xs.getD j 0))
theorem own_rowAt {w : World} {base : Nat} {v : Value} {xs : List Int} (h : w.ownsRow base 3 1 v xs.length (intVals xs)) (hn : 0 < xs.length) : RowAt w v xs := by
  obtain ⟨g, c, e, hc, _, hg, hr⟩ := own_cells h hn
  refine ⟨g, c, e, hc, hg, fun j hj => ?_⟩
  rw [hr j (by omega)]
  unfold intVals
  rw [List.getElem?_map, List.getElem?_eq_getElem hj, List.getD_eq_getElem?_getD, List.getElem?_eq_getElem hj]; rfl
def GrownRol (w : World) (e : Ending) (w' : World) : Prop := ∃ gO cO x0 x1, e = .returned (.tuple #[.slice (some ⟨gO, 0, none⟩) 2 cO, .nilIface]) ∧ gO < w'.heap.size ∧ w'.cell? ⟨gO, 0, none⟩ = some x0 ∧ w'.cell? ⟨gO, 1, none⟩ = some x1 ∧ RowAt w' x0 [1, 1] ∧ RowAt w' x1 [2, 3] ∧ Below w.heap.size w w'
theorem grown_rol {w w' : World} {e : Ending} (h : RolPost w [gN1, gN2] e w') : GrownRol w e w' := by
  obtain ⟨v, vs, rfl, hown, hrows, hb⟩ := h
  have ho : w'.ownsRow w.heap.size 50 1 v 2 vs := hown
  obtain ⟨gO, cO, rfl, _, _, hg, hc⟩ := own_cells ho (by decide)
  rw [grown_roles] at hrows
  obtain ⟨hl, hr⟩ := hrows
  have h2 : vs.length = 2 := hl
  obtain ⟨x0, x1, rfl⟩ : ∃ x0 x1, vs = [x0, x1] := by
    match vs, h2 with
    | [a, b], _ => exact ⟨a, b, rfl⟩
  exact ⟨gO, cO, x0, x1, rfl, hg, hc 0 (by decide), hc 1 (by decide), own_rowAt (xs := [1, 1]) (hr 0 (by decide)) (by decide), own_rowAt (xs := [2, 3]) (hr 1 (by decide)) (by decide), hb⟩
def GrownSol (w : World) (e : Ending) (w' : World) : Prop := ∃ gV c, e = .returned (.tuple #[.slice (some ⟨gV, 0, none⟩) 2 c, .nilIface]) ∧ gV < w'.heap.size ∧ w'.rangeAt gV 21 gV2.vals ∧ Below w.heap.size w w'
theorem grown_sol {w w' : World} {e : Ending} (h : SolPost w (solveM [gN1, gN2]) e w') : GrownSol w e w' := by
  rw [grown_solve] at h
  obtain ⟨v, rfl, hown, hb⟩ := h
  obtain ⟨A, c, rfl, _, hA, hs⟩ := own_vecs hown rfl
  obtain ⟨gV, rfl, _, hg⟩ := hA (by decide)
  obtain ⟨g', o', e', _, hr⟩ := hs (by decide)
  injection e' with e'; injection e' with e1 e2
  subst e1 e2
  exact ⟨gV, c, rfl, hg, hr 1 (by decide), hb⟩
theorem wp_at {P : Program} {c : Code} {Q : Exit → Act → World → Prop} {a : Act} {w W : World} (e : W = w) (h : c.wp P Q a W) : c.wp P Q a w := e ▸ h
end Go.Proofs.Ythpgdipcdllfdaa

/- Rows of roles, of vectors, of counts in memory: what a law's loops read. -/
import Derived.Test.YthpgdipcdllfdaaRolesF
import Derived.Test.YthpgdipcdllfdaaTree18
import Derived.Test.YthpgdipcdllfdaaTree19
namespace Go.Proofs.Ythpgdipcdllfdaa
open Go.RowKit
/-! ### An array of counts -/
def arrVals (c : Nat → Nat) : List Value := (List.range 64).map fun lan => .int .i64 (c lan : Int)
theorem arrVals_len (c : Nat → Nat) : (arrVals c).length = 64 := by simp [arrVals]
theorem arrVals_at (c : Nat → Nat) {a : Nat} (h : a < 64) : (arrVals c)[a]? = some (.int .i64 (c a : Int)) := by
  unfold arrVals
  rw [List.getElem?_map, List.getElem?_range h]; rfl
theorem arrVals_set (c : Nat → Nat) {a : Nat} (h : a < 64) (v : Nat) : (arrVals c).take a ++ ([.int .i64 (v : Int)] ++ (arrVals c).drop (a + 1)) = arrVals (fun x => if x = a then v else c x) := by
  apply List.ext_getElem?
  intro j
  by_cases hj : j < 64
  · rw [arrVals_at _ hj]
    by_cases h1 : j < a
    · rw [List.getElem?_append_left (by simp [arrVals_len]; omega), List.getElem?_take_of_lt h1, arrVals_at _ hj, if_neg (by omega)]
    · rw [List.getElem?_append_right (by simp [arrVals_len]; omega), List.length_take, arrVals_len, Nat.min_eq_left (by omega)]
      by_cases h2 : j = a
      · subst h2; rw [if_pos rfl, Nat.sub_self]; rfl
      · rw [List.getElem?_append_right (by simp; omega), List.getElem?_drop, if_neg h2]
        rw [show a + 1 + (j - a - [Value.int .i64 (v : Int)].length) = j by simp; omega, arrVals_at _ hj]
  · rw [List.getElem?_eq_none (by simp [arrVals_len]; omega), List.getElem?_eq_none (by simp [arrVals_len]; omega)]
/-- Rows of numbers in memory. -/
def RowsAt (w : World) (v : Value) (R : Nat → List Int) (n : Nat) : Prop := ∃ A cap, v = .slice A n cap ∧ n ≤ cap ∧ (0 < n → ∃ g, A = some ⟨g, 0, none⟩ ∧ g < w.heap.size ∧
  ∀ i, i < n → ∃ A' c', w.cell? ⟨g, i, none⟩ = some (.slice A' (R i).length c') ∧ (R i).length ≤ c' ∧ (0 < (R i).length → ∃ g', A' = some ⟨g', 0, none⟩ ∧ g' < w.heap.size ∧ ∀ k, k < (R i).length → w.cell? ⟨g', k, none⟩ = some (.int .i64 ((R i).getD k 0))))
theorem RowsAt.below {w W : World} {v : Value} {R : Nat → List Int} {n : Nat} (h : RowsAt w v R n) (hb : Below w.heap.size w W) : RowsAt W v R n := by
  obtain ⟨A, cap, e, hc, hr⟩ := h
  refine ⟨A, cap, e, hc, fun h0 => ?_⟩
  obtain ⟨g, e1, hg, hi⟩ := hr h0
  refine ⟨g, e1, Nat.lt_of_lt_of_le hg hb.size, fun i hin => ?_⟩
  obtain ⟨A', c', h1, h2, h3⟩ := hi i hin
  refine ⟨A', c', laterc h1 hb hg, h2, fun h0' => ?_⟩
  obtain ⟨g', e2, hg', hk⟩ := h3 h0'
  exact ⟨g', e2, Nat.lt_of_lt_of_le hg' hb.size, fun k hkn => laterc (hk k hkn) hb hg'⟩
theorem own_ints_at {w : World} {base n : Nat} {v : Value} {xs : List Int} (h : w.ownsRow base 3 1 v n (intVals xs)) (hn : n = xs.length) :
    ∃ A c, v = .slice A n c ∧ n ≤ c ∧ (0 < n → ∃ g, A = some ⟨g, 0, none⟩ ∧ g < w.heap.size ∧ ∀ k, k < n → w.cell? ⟨g, k, none⟩ = some (.int .i64 (xs.getD k 0))) := by
  rcases Nat.eq_zero_or_pos n with h0 | h0
  · subst h0
    rcases h.2 with ⟨rfl, _⟩ | ⟨g, cap, cur, rfl, _⟩
    · exact ⟨none, 0, rfl, Nat.le_refl _, fun h => absurd h (by omega)⟩
    · exact ⟨_, cap, rfl, Nat.zero_le _, fun h => absurd h (by omega)⟩
  · obtain ⟨g, c, rfl, hc, _, hg, hk⟩ := own_cells h h0
    refine ⟨_, c, rfl, hc, fun _ => ⟨g, rfl, hg, fun k hkn => ?_⟩⟩
    rw [hk k (by omega)]
    unfold intVals
    rw [List.getElem?_map, List.getElem?_eq_getElem (by omega), List.getD_eq_getElem?_getD, List.getElem?_eq_getElem (by omega)]; rfl
theorem rows_at {w : World} {base n : Nat} {v : Value} {vs : List Value} {R : Nat → List Int} (h : w.ownsRow base 50 1 v n vs) (hr : RowsOk w base vs R n) : RowsAt w v R n := by
  rcases Nat.eq_zero_or_pos n with h0 | h0
  · subst h0
    rcases h.2 with ⟨rfl, _⟩ | ⟨g, cap, cur, rfl, _⟩
    · exact ⟨none, 0, rfl, Nat.le_refl _, fun h => absurd h (by omega)⟩
    · exact ⟨_, cap, rfl, Nat.zero_le _, fun h => absurd h (by omega)⟩
  · obtain ⟨g, c, rfl, hc, _, hg, hk⟩ := own_cells h h0
    refine ⟨_, c, rfl, hc, fun _ => ⟨g, rfl, hg, fun i hi => ?_⟩⟩
    obtain ⟨hl, ho⟩ := hr
    obtain ⟨A', c', e, hc', hk'⟩ := own_ints_at (ho i hi) rfl
    refine ⟨A', c', ?_, hc', hk'⟩
    rw [hk i (by omega), ← e, List.getD_eq_getElem?_getD, List.getElem?_eq_getElem (by omega)]; rfl
/-- Vectors in memory. -/
def VecsAt (w : World) (v : Value) (V : List Vec) (n : Nat) : Prop := ∃ A cap, v = .slice A n cap ∧ n ≤ cap ∧ (0 < n → ∃ g, A = some ⟨g, 0, none⟩ ∧ g < w.heap.size ∧ ∀ i, i < n → w.rangeAt g (i * 21) (vecAt V i).vals)
theorem VecsAt.below {w W : World} {v : Value} {V : List Vec} {n : Nat} (h : VecsAt w v V n) (hb : Below w.heap.size w W) : VecsAt W v V n := by
  obtain ⟨A, cap, e, hc, hr⟩ := h
  refine ⟨A, cap, e, hc, fun h0 => ?_⟩
  obtain ⟨g, e1, hg, hi⟩ := hr h0
  exact ⟨g, e1, Nat.lt_of_lt_of_le hg hb.size, fun i hin => rangeAt_below (hi i hin) hb hg⟩
theorem vecs_at {w : World} {base n : Nat} {v : Value} {V : List Vec} (h : w.ownsRow base 48 21 v n (vrows V)) (hn : V.length = n) : VecsAt w v V n := by
  obtain ⟨A, cap, rfl, hc, hA, hs⟩ := own_vecs h hn
  refine ⟨A, cap, rfl, hc, fun h0 => ?_⟩
  obtain ⟨g, rfl, _, hg⟩ := hA h0
  refine ⟨g, rfl, hg, fun i hi => ?_⟩
  obtain ⟨g', o', e', _, hr'⟩ := own_slrow h hn (by rw [List.length_map]; omega)
  injection e' with e'; injection e' with e1 e2
  subst e1 e2
  have := hr' i (by rw [List.length_map]; omega)
  rw [Nat.zero_add, List.getElem_map] at this
  unfold vecAt
  rw [List.getD_eq_getElem?_getD, List.getElem?_eq_getElem (by omega)]
  exact this
theorem rng_left {w : World} {g o : Nat} {a b : List Value} (h : w.rangeAt g o (a ++ b)) : w.rangeAt g o a := fun j v hv => h j v (by
  rw [List.getElem?_append_left (List.getElem?_eq_some_iff.1 hv).1]; exact hv)
theorem rng_right {w : World} {g o : Nat} {a b : List Value} (h : w.rangeAt g o (a ++ b)) : w.rangeAt g (o + a.length) b := fun j v hv => by
  have := h (a.length + j) v (by rw [List.getElem?_append_right (by omega), Nat.add_sub_cancel_left]; exact hv)
  rw [Nat.add_assoc]; exact this
theorem rolesM_len (l : List Node) {i : Nat} (hi : i < l.length) : ((rolesM l).getD i []).length = (nodeAt l i).ports.length := by
  rw [rolesM_at l hi, rolesTo_len]
theorem rolesM_get (l : List Node) {i k : Nat} (hi : i < l.length) (hk : k < (nodeAt l i).ports.length) : ((rolesM l).getD i []).getD k 0 = roleAt l (solveM l) i k := by
  rw [rolesM_at l hi]
  unfold rolesTo
  rw [getD_map_range _ _ _ _ hk]; rfl
end Go.Proofs.Ythpgdipcdllfdaa

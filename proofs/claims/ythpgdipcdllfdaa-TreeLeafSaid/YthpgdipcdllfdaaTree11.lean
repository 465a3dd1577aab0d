/- tree.Solve: the plain side: costs stay small; the list that is being made. -/
import Derived.Test.YthpgdipcdllfdaaTreeF
namespace Go.Proofs.Ythpgdipcdllfdaa
theorem best_cases (hs : List Vec) : ∀ a, bestOf a hs = a ∨ bestOf a hs ∈ hs := by
  induction hs with
  | nil => exact fun a => .inl rfl
  | cons b r ih =>
    intro a
    show bestOf (if better b a then b else a) r = a ∨ bestOf (if better b a then b else a) r ∈ b :: r
    rcases ih (if better b a then b else a) with h | h
    · by_cases e : better b a = true
      · rw [if_pos e] at h ⊢; exact .inr (by rw [h]; exact List.mem_cons_self ..)
      · rw [if_neg e] at h ⊢; exact .inl h
    · exact .inr (List.mem_cons_of_mem _ h)
/-- The numbers of a net's ports, as Check lets them be. -/
def PortsOk (l : List Node) : Prop := ∀ i k, i < l.length → k < (nodeAt l i).ports.length → 1 ≤ (memAt l i k).cost ∧ (memAt l i k).cost ≤ 200000000
theorem rounds_cost {l : List Node} (hp : PortsOk l) (t : Nat) : ∀ i, i < l.length → 0 ≤ ((roundsM l t).getD i default).cost ∧ ((roundsM l t).getD i default).cost ≤ 200000000 * (t : Int) := by
  induction t with
  | zero =>
    intro i hi
    have e : (roundsM l 0).getD i default = ownM (nodeAt l i) := by
      simp only [roundsM, nodeAt, List.getD_eq_getElem?_getD, List.getElem?_map, List.getElem?_eq_getElem hi, Option.map_some, Option.getD_some]
    rw [e]
    exact ⟨Int.le_refl 0, by simp [ownM]⟩
  | succ t ih =>
    intro i hi
    have e : (roundsM l (t + 1)).getD i default = nextOf l (roundsM l t) i := getD_map_range _ _ _ _ hi
    rw [e]
    unfold nextOf
    rcases best_cases ((List.range (nodeAt l i).ports.length).flatMap (heardM l (roundsM l t) i)) ((roundsM l t).getD i default) with h | h
    · rw [h]; have := ih i hi; omega
    · obtain ⟨k, j, m, hk, hj, hm, ho, he⟩ := mem_heards.1 h
      rw [he]
      have h1 := ih j hj
      have h2 := hp i k hi hk
      show 0 ≤ ((roundsM l t).getD j default).cost + (memAt l i k).cost ∧ ((roundsM l t).getD j default).cost + (memAt l i k).cost ≤ _
      omega
theorem others_cost {l : List Node} (hp : PortsOk l) {t : Nat} (ht : t ≤ 12) {i k : Nat} {v : Vec} (h : v ∈ othersM l (roundsM l t) i k) : 0 ≤ v.cost ∧ v.cost ≤ 4000000000 := by
  obtain ⟨j, m, hj, hm, ho, rfl⟩ := mem_others.1 h
  have := rounds_cost hp t j hj
  show 0 ≤ ((roundsM l t).getD j default).cost ∧ ((roundsM l t).getD j default).cost ≤ _
  omega
/-- The list that a round makes, as far as it has come: node i has 'acc'. -/
def nvTo (l : List Node) (has : List Vec) (i : Nat) (acc : Vec) : List Vec := (List.range l.length).map fun j => if j < i then nextOf l has j else if j = i then acc else has.getD j default
theorem nvTo_len (l : List Node) (has : List Vec) (i : Nat) (acc : Vec) : (nvTo l has i acc).length = l.length := by simp [nvTo]
theorem nvTo_start (l : List Node) (has : List Vec) (h : has.length = l.length) : nvTo l has 0 (has.getD 0 default) = has := by
  apply getD_ext (by rw [nvTo_len, h])
  intro i hi
  rw [nvTo_len] at hi
  unfold nvTo
  rw [getD_map_range _ _ _ _ hi, if_neg (by omega)]
  by_cases e : i = 0
  · rw [if_pos e, e]
  · rw [if_neg e]
theorem nvTo_step (l : List Node) (has : List Vec) (i : Nat) : nvTo l has i (nextOf l has i) = nvTo l has (i + 1) (has.getD (i + 1) default) := by
  apply getD_ext (by rw [nvTo_len, nvTo_len])
  intro j hj
  rw [nvTo_len] at hj
  unfold nvTo
  rw [getD_map_range _ _ _ _ hj, getD_map_range _ _ _ _ hj]
  by_cases h1 : j < i
  · rw [if_pos h1, if_pos (by omega)]
  · rw [if_neg h1]
    by_cases h2 : j = i
    · rw [if_pos h2, if_pos (by omega), h2]
    · rw [if_neg h2, if_neg (by omega)]
      by_cases h3 : j = i + 1
      · rw [if_pos h3, h3]
      · rw [if_neg h3]
theorem nvTo_end (l : List Node) (has : List Vec) (acc : Vec) : nvTo l has l.length acc = nextM l has := by
  unfold nvTo nextM
  apply List.map_congr_left
  intro j hj
  rw [if_pos (by simpa using hj)]
theorem nvTo_set (l : List Node) (has : List Vec) (i : Nat) (acc x : Vec) (hi : i < l.length) : (nvTo l has i acc).set i x = nvTo l has i x := by
  apply getD_ext (by rw [List.length_set, nvTo_len, nvTo_len])
  intro j hj
  rw [List.length_set, nvTo_len] at hj
  rw [List.getD_eq_getElem?_getD, List.getElem?_set]
  by_cases e : i = j
  · subst e
    rw [if_pos rfl, if_pos (by rw [nvTo_len]; exact hi)]
    unfold nvTo
    rw [getD_map_range _ _ _ _ hj, if_neg (Nat.lt_irrefl _), if_pos rfl]; rfl
  · rw [if_neg e, ← List.getD_eq_getElem?_getD]
    unfold nvTo
    rw [getD_map_range _ _ _ _ hj, getD_map_range _ _ _ _ hj]
    by_cases h1 : j < i
    · rw [if_pos h1, if_pos h1]
    · rw [if_neg h1, if_neg h1, if_neg (fun h => e h.symm), if_neg (fun h => e h.symm)]
theorem nvTo_at (l : List Node) (has : List Vec) (i : Nat) (acc : Vec) (hi : i < l.length) : (nvTo l has i acc).getD i default = acc := by
  unfold nvTo
  rw [getD_map_range _ _ _ _ hi, if_neg (Nat.lt_irrefl _), if_pos rfl]
/-- The best of what was heard by the first ports, and by some of the next one. -/
def bestTo (l : List Node) (has : List Vec) (i k : Nat) : Vec := bestOf (has.getD i default) ((List.range k).flatMap (heardM l has i))
def bestIn (l : List Node) (has : List Vec) (i k q : Nat) : Vec := bestOf (bestTo l has i k) (((othersM l has i k).take q).map fun v => hearsM (nodeAt l i) v k)
theorem bestOf_append (a : Vec) (x y : List Vec) : bestOf a (x ++ y) = bestOf (bestOf a x) y := by simp [bestOf, List.foldl_append]
theorem bestTo_succ (l : List Node) (has : List Vec) (i k : Nat) : bestIn l has i k (othersM l has i k).length = bestTo l has i (k + 1) := by
  unfold bestIn bestTo
  rw [List.take_length, List.range_succ, List.flatMap_append, bestOf_append]
  simp [heardM]
theorem bestIn_succ (l : List Node) (has : List Vec) (i k q : Nat) (hq : q < (othersM l has i k).length) :
    bestIn l has i k (q + 1) = if better (hearsM (nodeAt l i) ((othersM l has i k)[q]) k) (bestIn l has i k q) = true then hearsM (nodeAt l i) ((othersM l has i k)[q]) k else bestIn l has i k q := by
  unfold bestIn
  rw [List.take_succ_eq_append_getElem hq, List.map_append, bestOf_append]
  rfl
theorem bestTo_zero (l : List Node) (has : List Vec) (i : Nat) : bestTo l has i 0 = has.getD i default := rfl
theorem bestIn_zero (l : List Node) (has : List Vec) (i k : Nat) : bestIn l has i k 0 = bestTo l has i k := rfl
theorem bestTo_end (l : List Node) (has : List Vec) (i : Nat) : bestTo l has i (nodeAt l i).ports.length = nextOf l has i := rfl
end Go.Proofs.Ythpgdipcdllfdaa

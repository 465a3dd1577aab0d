/- What holds of the solution: neighbours, roots, roles. No program in sight. -/
import Derived.Test.YthpgdipcdllfdaaTreeS
namespace Go.Proofs.Ythpgdipcdllfdaa
section
variable {l : List Node}
def brAt (l : List Node) (i : Nat) : Br := (nodeAt l i).br
def memAt (l : List Node) (i k : Nat) : Mem := portAt (nodeAt l i) k
def vecAt (V : List Vec) (i : Nat) : Vec := V.getD i default
/-- The order of names. -/
def lessB (a b : Br) : Bool := decide (lexI a.key b.key < 0)
theorem lessB_total {a b : Br} (h : lessB a b = false) (k : lessB b a = false) : a = b := by
  simp only [lessB, decide_eq_false_iff_not] at *
  have := lexI_neg a.key b.key
  exact Br.inj (lexI_zero (by omega))
theorem lessB_irrefl (a : Br) : lessB a a = false := by simp [lessB, lexI_refl]
/-- Better, part by part. -/
theorem better_parts (a b : Vec) : better a b = (lessB a.root b.root || (decide (a.root = b.root) && (decide (a.cost < b.cost) || (decide (a.cost = b.cost) && decide (lexI a.label b.label < 0))))) := by
  have e1 := lexI_append (a := a.root.key) (a' := b.root.key) (a.cost :: a.label) (b.cost :: b.label) rfl
  have e2 : lexI (a.cost :: a.label) (b.cost :: b.label) = if a.cost < b.cost then -1 else if b.cost < a.cost then 1 else lexI a.label b.label := rfl
  have e3 : better a b = decide (lexI (a.root.key ++ (a.cost :: a.label)) (b.root.key ++ (b.cost :: b.label)) < 0) := rfl
  rw [e3, e1, e2]
  by_cases hr : a.root = b.root
  · rw [hr, lexI_refl, if_pos rfl]
    by_cases c1 : a.cost < b.cost
    · simp [c1, lessB, lexI_refl]
    · by_cases c2 : b.cost < a.cost
      · simp [c1, c2, lessB, lexI_refl]; omega
      · have c3 : a.cost = b.cost := by omega
        simp [c3, lessB, lexI_refl]
  · have hz : lexI a.root.key b.root.key ≠ 0 := fun h => hr (Br.inj (lexI_zero h))
    rw [if_neg hz]
    simp [lessB, hr]
theorem heard_root (V : Vec) (i k j m : Nat) : (heardOf l V i k j m).root = V.root := rfl
theorem heard_cost (V : Vec) (i k j m : Nat) : (heardOf l V i k j m).cost = V.cost + (memAt l i k).cost := rfl
theorem onLan_of (i k j m : Nat) (h : (memAt l j m).lan = (memAt l i k).lan) (hne : ¬ (j = i ∧ m = k)) : onLan l i k j m = true := by
  unfold onLan
  unfold memAt at h
  simp only [h, decide_true, Bool.true_and, Bool.not_eq_true']
  by_cases hj : j = i
  · by_cases hm : m = k
    · exact (hne ⟨hj, hm⟩).elim
    · simp [hj, hm]
  · simp [hj]
theorem onLan_lan {i k j m : Nat} (h : onLan l i k j m = true) : (memAt l j m).lan = (memAt l i k).lan ∧ ¬ (j = i ∧ m = k) := by
  unfold onLan at h
  simp only [Bool.and_eq_true, decide_eq_true_eq, Bool.not_eq_true', Bool.and_eq_false_iff, decide_eq_false_iff_not] at h
  refine ⟨h.1, fun ⟨h1, h2⟩ => ?_⟩
  rcases h.2 with h3 | h3
  · exact h3 h1
  · exact h3 h2
theorem cost_pos (hv : validNet l = true) {i k : Nat} (hi : i < l.length) (hk : k < (nodeAt l i).ports.length) : 1 ≤ (memAt l i k).cost ∧ (memAt l i k).cost ≤ 200000000 ∧ 0 ≤ (memAt l i k).lan ∧ (memAt l i k).lan ≤ 63 :=
  (rightM_pt (valid_mem hv hi hk)).2
section
variable {V : List Vec} (hv : validNet l = true) (h : Sol l V)
include hv h
omit hv in
/-- A neighbour's root is no better. -/
theorem near_root_le {i k j m : Nat} (hi : i < l.length) (hk : k < (nodeAt l i).ports.length) (hj : j < l.length) (hm : m < (nodeAt l j).ports.length) (ho : onLan l i k j m = true) : lessB (vecAt V j).root (vecAt V i).root = false := by
  have := h.hear i k j m hi hk hj hm ho
  rw [better_parts] at this
  simp only [Bool.or_eq_false_iff] at this
  exact this.1
omit hv h in
theorem onLan_symm {i k j m : Nat} (ho : onLan l i k j m = true) : onLan l j m i k = true := by
  obtain ⟨h1, h2⟩ := onLan_lan ho
  exact onLan_of j m i k h1.symm (fun ⟨a, b⟩ => h2 ⟨a.symm, b.symm⟩)
omit hv in
theorem near_root {i k j m : Nat} (hi : i < l.length) (hk : k < (nodeAt l i).ports.length) (hj : j < l.length) (hm : m < (nodeAt l j).ports.length) (ho : onLan l i k j m = true) : (vecAt V i).root = (vecAt V j).root :=
  lessB_total (near_root_le h hj hm hi hk (onLan_symm ho)) (near_root_le h hi hk hj hm ho)
omit hv in
theorem near_cost {i k j m : Nat} (hi : i < l.length) (hk : k < (nodeAt l i).ports.length) (hj : j < l.length) (hm : m < (nodeAt l j).ports.length) (ho : onLan l i k j m = true) : (vecAt V i).cost ≤ (vecAt V j).cost + (memAt l i k).cost := by
  have h1 := h.hear i k j m hi hk hj hm ho
  have h2 := near_root h hi hk hj hm ho
  rw [better_parts] at h1
  simp only [Bool.or_eq_false_iff, Bool.and_eq_false_iff, decide_eq_false_iff_not] at h1
  rcases h1.2 with h3 | h3
  · exact (h3 h2.symm).elim
  · have := h3.1
    rw [heard_cost] at this
    show (V.getD i default).cost ≤ _
    unfold vecAt
    omega
omit hv in
theorem sol_cost {i : Nat} (hi : i < l.length) : 0 ≤ (vecAt V i).cost := (h.ok i hi).cost
/-- Each vector is the node's own, or told by another node. -/
theorem sol_hit' {i : Nat} (hi : i < l.length) : vecAt V i = ownM (nodeAt l i) ∨ ∃ k j m, k < (nodeAt l i).ports.length ∧ j < l.length ∧ m < (nodeAt l j).ports.length ∧ onLan l i k j m = true ∧ j ≠ i ∧ vecAt V i = heardOf l (vecAt V j) i k j m := by
  rcases h.hit i hi with e | ⟨k, j, m, hk, hj, hm, ho, e⟩
  · exact .inl e
  · refine .inr ⟨k, j, m, hk, hj, hm, ho, fun hji => ?_, e⟩
    have hc := congrArg Vec.cost e
    rw [hji, heard_cost] at hc
    have := (cost_pos hv hi hk).1
    omega
theorem root_own {i : Nat} (hi : i < l.length) (hr : (vecAt V i).root = brAt l i) : vecAt V i = ownM (nodeAt l i) := by
  rcases sol_hit' hv h hi with e | ⟨k, j, m, hk, hj, hm, ho, hne, e⟩
  · exact e
  · have h1 := h.own i hi
    rw [better_parts] at h1
    simp only [Bool.or_eq_false_iff, Bool.and_eq_false_iff, decide_eq_false_iff_not] at h1
    rcases h1.2 with h3 | h3
    · exact (h3 hr.symm).elim
    · have h4 := h3.1
      have hc := congrArg Vec.cost e
      rw [heard_cost] at hc
      have h5 := (cost_pos hv hi hk).1
      have h6 := sol_cost h hj
      have h7 : (V.getD i default).cost = (vecAt V i).cost := rfl
      have h8 : (ownM (nodeAt l i)).cost = 0 := rfl
      omega
theorem cost_zero {i : Nat} (hi : i < l.length) : (vecAt V i).root = brAt l i ↔ (vecAt V i).cost = 0 := by
  constructor
  · intro hr; rw [root_own hv h hi hr]; rfl
  · intro hc
    rcases sol_hit' hv h hi with e | ⟨k, j, m, hk, hj, hm, ho, hne, e⟩
    · rw [e]; rfl
    · have hc' := congrArg Vec.cost e
      rw [heard_cost] at hc'
      have h5 := (cost_pos hv hi hk).1
      have h6 := sol_cost h hj
      omega
omit hv in
theorem own_le {i : Nat} (hi : i < l.length) : lessB (brAt l i) (vecAt V i).root = false := by
  have h1 := h.own i hi
  rw [better_parts] at h1
  simp only [Bool.or_eq_false_iff] at h1
  exact h1.1
end
end
end Go.Proofs.Ythpgdipcdllfdaa

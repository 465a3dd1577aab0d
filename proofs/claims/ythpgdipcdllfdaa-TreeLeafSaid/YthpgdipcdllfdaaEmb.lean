/- A net in another one: nodes by number, ports by number; its solution and its roles. No program in sight. -/
import Derived.Test.YthpgdipcdllfdaaRolesF
namespace Go.Proofs.Ythpgdipcdllfdaa
/-- Net m lies in net l: node i of it is node s i, its port k is port t i k. -/
structure Emb (m l : List Node) (s : Nat → Nat) (t : Nat → Nat → Nat) : Prop where
  len : m.length = l.length
  node : ∀ i, i < m.length → s i < l.length
  br : ∀ i, i < m.length → (nodeAt m i).br = (nodeAt l (s i)).br
  port : ∀ i k, i < m.length → k < (nodeAt m i).ports.length → t i k < (nodeAt l (s i)).ports.length
  same : ∀ i k, i < m.length → k < (nodeAt m i).ports.length → portAt (nodeAt m i) k = portAt (nodeAt l (s i)) (t i k)
  injN : ∀ i j, i < m.length → j < m.length → s i = s j → i = j
  injP : ∀ i k q, i < m.length → k < (nodeAt m i).ports.length → q < (nodeAt m i).ports.length → t i k = t i q → k = q
section
variable {m l : List Node} {s : Nat → Nat} {t : Nat → Nat → Nat} (E : Emb m l s t)
include E
theorem emb_onLan {i k j q : Nat} (hi : i < m.length) (hk : k < (nodeAt m i).ports.length) (hj : j < m.length) (hq : q < (nodeAt m j).ports.length) : onLan m i k j q = onLan l (s i) (t i k) (s j) (t j q) := by
  unfold onLan
  rw [E.same i k hi hk, E.same j q hj hq]
  have e1 : decide (j = i) = decide (s j = s i) := by
    by_cases h : j = i
    · subst h; simp
    · have : ¬ s j = s i := fun e => h (E.injN j i hj hi e)
      simp [h, this]
  rw [e1]
  by_cases h : s j = s i
  · have hji := E.injN j i hj hi h
    subst hji
    have e2 : decide (q = k) = decide (t j q = t j k) := by
      by_cases h' : q = k
      · subst h'; simp
      · have : ¬ t j q = t j k := fun e => h' (E.injP j q k hj hq hk e)
        simp [h', this]
    rw [e2]
  · simp [h]
theorem emb_own {i : Nat} (hi : i < m.length) : ownM (nodeAt m i) = ownM (nodeAt l (s i)) := by unfold ownM; rw [E.br i hi]
theorem emb_heard {v : Vec} {i k j q : Nat} (hi : i < m.length) (hk : k < (nodeAt m i).ports.length) (hj : j < m.length) (hq : q < (nodeAt m j).ports.length) : heardOf m v i k j q = heardOf l v (s i) (t i k) (s j) (t j q) := by
  unfold heardOf hearsM tellsM
  rw [E.br j hj, E.same i k hi hk, E.same j q hj hq]
theorem emb_sol {V W : List Vec} (h : Sol l V) (hW : W.length = m.length) (hWV : ∀ i, i < m.length → W.getD i default = V.getD (s i) default)
    (hhit : ∀ i, i < m.length → V.getD (s i) default = ownM (nodeAt l (s i)) ∨ ∃ k j q, k < (nodeAt m i).ports.length ∧ j < m.length ∧ q < (nodeAt m j).ports.length ∧ onLan l (s i) (t i k) (s j) (t j q) = true ∧ V.getD (s i) default = heardOf l (V.getD (s j) default) (s i) (t i k) (s j) (t j q)) : Sol m W := by
  refine ⟨hW, ?_, ?_, ?_, ?_⟩
  · intro i hi; rw [hWV i hi]; exact h.ok _ (E.node i hi)
  · intro i hi; rw [hWV i hi, emb_own E hi]; exact h.own _ (E.node i hi)
  · intro i k j q hi hk hj hq ho
    rw [hWV i hi, hWV j hj, emb_heard E hi hk hj hq]
    rw [emb_onLan E hi hk hj hq] at ho
    exact h.hear _ _ _ _ (E.node i hi) (E.port i k hi hk) (E.node j hj) (E.port j q hj hq) ho
  · intro i hi
    rw [hWV i hi, emb_own E hi]
    rcases hhit i hi with e | ⟨k, j, q, hk, hj, hq, ho, e⟩
    · exact .inl e
    · exact .inr ⟨k, j, q, hk, hj, hq, by rw [emb_onLan E hi hk hj hq]; exact ho, by rw [hWV j hj, emb_heard E hi hk hj hq]; exact e⟩
theorem emb_tell {V W : List Vec} (hWV : ∀ i, i < m.length → W.getD i default = V.getD (s i) default) {j q : Nat} (hj : j < m.length) (hq : q < (nodeAt m j).ports.length) : tellAt m W j q = tellAt l V (s j) (t j q) := by
  unfold tellAt tellsM vecAt
  rw [hWV j hj, E.br j hj, E.same j q hj hq]
theorem emb_best {V W : List Vec} (hWV : ∀ i, i < m.length → W.getD i default = V.getD (s i) default) {i k : Nat} (hi : i < m.length) (hk : k < (nodeAt m i).ports.length)
    (hb : ∀ j q, j < l.length → q < (nodeAt l j).ports.length → onLan l (s i) (t i k) j q = true → better (tellAt l V j q) (tellAt l V (s i) (t i k)) = true → ∃ j' q', j' < m.length ∧ q' < (nodeAt m j').ports.length ∧ onLan l (s i) (t i k) (s j') (t j' q') = true ∧ better (tellAt l V (s j') (t j' q')) (tellAt l V (s i) (t i k)) = true) :
    bestAt m W i k = bestAt l V (s i) (t i k) := by
  rw [Bool.eq_iff_iff, best_iff, best_iff]
  constructor
  · intro h j q hj hq ho
    cases hc : better (tellAt l V j q) (tellAt l V (s i) (t i k))
    · rfl
    · obtain ⟨j', q', hj', hq', ho', hc'⟩ := hb j q hj hq ho hc
      have := h j' q' hj' hq' (by rw [emb_onLan E hi hk hj' hq']; exact ho')
      rw [emb_tell E hWV hj' hq', emb_tell E hWV hi hk, hc'] at this
      cases this
  · intro h j q hj hq ho
    rw [emb_tell E hWV hj hq, emb_tell E hWV hi hk]
    rw [emb_onLan E hi hk hj hq] at ho
    exact h _ _ (E.node j hj) (E.port j q hj hq) ho
theorem emb_role {V W : List Vec} (hWV : ∀ i, i < m.length → W.getD i default = V.getD (s i) default) {i k : Nat} (hi : i < m.length) (hk : k < (nodeAt m i).ports.length)
    (hb : bestAt m W i k = bestAt l V (s i) (t i k)) : roleAt m W i k = roleAt l V (s i) (t i k) := by
  unfold roleAt roleM vecAt
  rw [hb, hWV i hi, E.br i hi, E.same i k hi hk]
end
end Go.Proofs.Ythpgdipcdllfdaa

/- TreeCosts: what its loops gather (no program). -/
import Derived.Test.YthpgdipcdllfdaaTree19
namespace Go.Proofs.Ythpgdipcdllfdaa
open Go.RowKit
/-- What holds of some triple that was met turns the flag. -/
def Seen (H : Nat → Nat → Nat → Prop) (k j m : Nat) (b : Bool) : Prop := ∀ k' j' m', (k' < k ∨ k' = k ∧ (j' < j ∨ j' = j ∧ m' < m)) → H k' j' m' → b = true
theorem Seen.zero (H : Nat → Nat → Nat → Prop) (b : Bool) : Seen H 0 0 0 b := fun k' j' m' h => by omega
theorem Seen.next {H : Nat → Nat → Nat → Prop} {k j m : Nat} {b b' : Bool} (h : Seen H k j m b) (hb : b = true → b' = true) (hn : H k j m → b' = true) : Seen H k j (m + 1) b' := fun k' j' m' hlt hH => by
  by_cases e : k' = k ∧ j' = j ∧ m' = m
  · obtain ⟨rfl, rfl, rfl⟩ := e; exact hn hH
  · exact hb (h k' j' m' (by omega) hH)
theorem Seen.up {H : Nat → Nat → Nat → Prop} {k j m : Nat} {b : Bool} (h : Seen H k j m b) (hm : ∀ m', H k j m' → m' < m) : Seen H k (j + 1) 0 b := fun k' j' m' hlt hH => by
  by_cases e : k' = k ∧ j' = j
  · obtain ⟨rfl, rfl⟩ := e; exact h k' j' m' (by have := hm m' hH; omega) hH
  · exact h k' j' m' (by omega) hH
theorem Seen.top {H : Nat → Nat → Nat → Prop} {k j : Nat} {b : Bool} (h : Seen H k j 0 b) (hj : ∀ j' m', H k j' m' → j' < j) : Seen H (k + 1) 0 0 b := fun k' j' m' hlt hH => by
  by_cases e : k' = k
  · subst e; exact h k' j' m' (by have := hj j' m' hH; omega) hH
  · exact h k' j' m' (by omega) hH
/-- The way by which bridge i knows its root. -/
structure HitC (l : List Node) (V : List Vec) (i k j m : Nat) : Prop where
  hk : k < (nodeAt l i).ports.length
  hj : j < l.length
  hm : m < (nodeAt l j).ports.length
  ne : j ≠ i
  lan : (memAt l j m).lan = (memAt l i k).lan
  at_ : (memAt l i k).port = (vecAt V i).at_
  port : (memAt l j m).port = (vecAt V i).port
  sender : (nodeAt l j).br = (vecAt V i).sender
  cost : (vecAt V i).cost = (vecAt V j).cost + (memAt l i k).cost
theorem hit_some {l : List Node} {V : List Vec} (hv : validNet l = true) (h : Sol l V) {i : Nat} (hi : i < l.length) (hr : (vecAt V i).root ≠ brAt l i) : ∃ k j m, HitC l V i k j m := by
  rcases sol_hit' hv h hi with e | ⟨k, j, m, hk, hj, hm, ho, hne, e⟩
  · rw [e] at hr; exact (hr rfl).elim
  · refine ⟨k, j, m, hk, hj, hm, hne, ?_, ?_, ?_, ?_, ?_⟩
    · unfold onLan at ho
      simp only [Bool.and_eq_true, decide_eq_true_eq] at ho
      exact ho.1
    · rw [e]; rfl
    · rw [e]; rfl
    · rw [e]; rfl
    · have := congrArg Vec.cost e
      rw [heard_cost] at this
      exact this
theorem near_le {l : List Node} {V : List Vec} (h : Sol l V) {i k j m : Nat} (hi : i < l.length) (hk : k < (nodeAt l i).ports.length) (hj : j < l.length) (hm : m < (nodeAt l j).ports.length) (hne : j ≠ i) (hl : (memAt l j m).lan = (memAt l i k).lan) : (vecAt V i).cost ≤ (vecAt V j).cost + (memAt l i k).cost := by
  refine near_cost h hi hk hj hm ?_
  unfold onLan
  have : (portAt (nodeAt l j) m).lan = (portAt (nodeAt l i) k).lan := hl
  simp [this, hne]
end Go.Proofs.Ythpgdipcdllfdaa

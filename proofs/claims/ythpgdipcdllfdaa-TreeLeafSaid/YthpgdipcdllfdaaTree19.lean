/- What Check asks is what the theory asks. -/
import Derived.Test.YthpgdipcdllfdaaTree16
import Derived.Test.YthpgdipcdllfdaaTreeF
namespace Go.Proofs.Ythpgdipcdllfdaa
open Go.RowKit
theorem distinctP_of : ∀ (ms : List Mem), (∀ j k (hk : k < ms.length) (hj : j < k), ms[j].port ≠ ms[k].port) → distinctP ms = true
  | [], _ => rfl
  | m :: r, h => by
    unfold distinctP
    rw [Bool.and_eq_true, List.all_eq_true]
    refine ⟨fun q hq => ?_, distinctP_of r fun j k hk hj => ?_⟩
    · obtain ⟨i, hi, rfl⟩ := List.getElem_of_mem hq
      have := h 0 (i + 1) (by simp; omega) (by omega)
      simp only [List.getElem_cons_zero, List.getElem_cons_succ] at this
      simpa using fun e => this e.symm
    · have := h (j + 1) (k + 1) (by simp; omega) (by omega)
      simpa using this
theorem distinctB_of : ∀ (l : List Node), (∀ j k (hk : k < l.length) (hj : j < k), l[j].br ≠ l[k].br) → distinctB l = true
  | [], _ => rfl
  | m :: r, h => by
    unfold distinctB
    rw [Bool.and_eq_true, List.all_eq_true]
    refine ⟨fun q hq => ?_, distinctB_of r fun j k hk hj => ?_⟩
    · obtain ⟨i, hi, rfl⟩ := List.getElem_of_mem hq
      have := h 0 (i + 1) (by simp; omega) (by omega)
      simp only [List.getElem_cons_zero, List.getElem_cons_succ] at this
      simpa using fun e => this e.symm
    · have := h (j + 1) (k + 1) (by simp; omega) (by omega)
      simpa using this
theorem take_mem {α : Type} {l : List α} {j k : Nat} (hk : k < l.length) (hj : j < k) : l[j] ∈ l.take k := by
  rw [List.mem_take_iff_getElem]
  exact ⟨j, by omega, rfl⟩
theorem nodeAt_eq {l : List Node} {k : Nat} (hk : k < l.length) : nodeAt l k = l[k] := by
  unfold nodeAt
  rw [List.getD_eq_getElem?_getD, List.getElem?_eq_getElem hk]; rfl
theorem portAt_eq {N : Node} {k : Nat} (hk : k < N.ports.length) : portAt N k = N.ports[k] := by
  unfold portAt
  rw [List.getD_eq_getElem?_getD, List.getElem?_eq_getElem hk]; rfl
theorem valid_of {l : List Node} (hn : l.length ≤ 12) (h : okTo l l.length = true) : validNet l = true := by
  unfold okTo at h
  rw [List.all_eq_true] at h
  have hat : ∀ k (hk : k < l.length), okAt l k = true := fun k hk => h k (by simpa using hk)
  unfold validNet
  rw [Bool.and_eq_true, Bool.and_eq_true, decide_eq_true_eq, List.all_eq_true]
  refine ⟨⟨hn, fun N hN => ?_⟩, distinctB_of l fun j k hk hj e => ?_⟩
  · obtain ⟨k, hk, rfl⟩ := List.getElem_of_mem hN
    have h1 := hat k hk
    unfold okAt at h1
    rw [nodeAt_eq hk] at h1
    simp only [Bool.and_eq_true, Bool.not_eq_true', decide_eq_true_eq] at h1
    obtain ⟨h8, hb, hm, hd, _⟩ := h1
    unfold rightN
    rw [Bool.and_eq_true, Bool.and_eq_true, Bool.and_eq_true, decide_eq_true_eq, List.all_eq_true]
    refine ⟨⟨⟨h8, hb⟩, fun m hmm => ?_⟩, distinctP_of _ fun j q hq hj e => ?_⟩
    · rw [List.any_eq_false] at hm
      have := hm m hmm
      unfold badM at this
      simpa using this
    · unfold dupTo at hd
      rw [List.any_eq_false] at hd
      have := hd q (by simpa using hq)
      apply this
      unfold dupAt
      rw [List.any_eq_true]
      refine ⟨_, take_mem hq hj, ?_⟩
      rw [decide_eq_true_eq, e, List.getD_eq_getElem?_getD, List.getElem?_eq_getElem hq]; rfl
  · have h1 := hat k hk
    unfold okAt brTwice at h1
    rw [nodeAt_eq hk] at h1
    simp only [Bool.and_eq_true, Bool.not_eq_true', decide_eq_true_eq] at h1
    have h2 := h1.2.2.2.2
    rw [List.any_eq_false] at h2
    exact h2 _ (take_mem hk hj) (by simpa using e)
end Go.Proofs.Ythpgdipcdllfdaa

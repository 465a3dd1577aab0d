/- What a call owns, across a range over a function. -/
import Derived.Test.YtjekdodboihfhaaDoorMv3
import Derived.Test.YtjekdodboihfhaaDoorSb
set_option linter.all false
namespace Go.Proofs.YtjekdodboihfhaaDoor
open Go.RowKit Go.Shelf
/-- An item all of whose blocks are cells. -/
def It.cellsI (x : It) : Prop := ∀ w, x.P w → ∀ g ∈ x.gs, ∃ c t f, w.heap[g]? = some (.cells c t f)
theorem bk_cells (g : Nat) (t : TypeId) (L : List Value) : (bk g t L).cellsI := fun w h k hk => by
  have hk : k ∈ [g] := hk
  rw [List.mem_singleton.1 hk]
  exact ⟨_, _, _, h⟩
theorem sb_cells (B b : Nat) (v : Value) (l : List UInt8) : (sb B b v l).cellsI := fun w h k hk => by
  obtain ⟨_, ⟨p, _, hb⟩, hown, _⟩ := h
  rcases List.mem_cons.1 hk with rfl | hk
  · exact ⟨_, _, _, hb⟩
  · rcases hown.2 with ⟨rfl, _⟩ | ⟨g', cap, cur, fz, rfl, _, hg', _⟩
    · simp [Value.ownBlock] at hk
    · have hk : k ∈ [g'] := hk
      rw [List.mem_singleton.1 hk]
      exact ⟨_, _, _, hg'⟩
theorem own_cells' (t size : Nat) (sv : Value) (n : Nat) (xs : List Value) : (ownI t size sv n xs).cellsI := fun w h k hk => by
  rcases h.2 with ⟨rfl, _⟩ | ⟨g', cap, cur, rfl, _, hg', _⟩
  · have hk : k ∈ ([] : List Nat) := hk
    cases hk
  · have hk : k ∈ [g'] := hk
    rw [List.mem_singleton.1 hk]
    exact ⟨_, _, _, hg'⟩
/-- What lies from B on and is no cells, as it lay in W0. -/
def ncells (B : Nat) (W0 : World) : List Nat := (List.range W0.heap.size).filter fun k => decide (B ≤ k) && (match W0.heap[k]? with | some o => !o.isCells | none => false)
theorem mem_ncells {B : Nat} {W0 : World} {k : Nat} : k ∈ ncells B W0 ↔ B ≤ k ∧ ∃ o, W0.heap[k]? = some o ∧ o.isCells = false := by
  unfold ncells
  rw [List.mem_filter, List.mem_range]
  constructor
  · rintro ⟨_, h⟩
    simp only [Bool.and_eq_true, decide_eq_true_eq] at h
    obtain ⟨h1, h2⟩ := h
    cases ho : W0.heap[k]? with
    | none => rw [ho] at h2; cases h2
    | some o => rw [ho] at h2; exact ⟨h1, o, rfl, by simpa using h2⟩
  · rintro ⟨h1, o, ho, hc⟩
    refine ⟨(Array.getElem?_eq_some_iff.1 ho).1, ?_⟩
    simp only [Bool.and_eq_true, decide_eq_true_eq]
    exact ⟨h1, by rw [ho]; simp [hc]⟩
def oth (B : Nat) (W0 : World) : It where
  gs := ncells B W0
  P w := W0.heap.size ≤ w.heap.size ∧ ∀ k o, B ≤ k → W0.heap[k]? = some o → o.isCells = false → w.heap[k]? = some o
  lt w h g hg := by
    obtain ⟨h1, o, ho, hc⟩ := mem_ncells.1 hg
    exact (Array.getElem?_eq_some_iff.1 (h.2 g o h1 ho hc)).1
  loc w W h hs hp := ⟨Nat.le_trans hp.1 hs, fun k o h1 ho hc => (h k (mem_ncells.2 ⟨h1, o, ho, hc⟩)).trans (hp.2 k o h1 ho hc)⟩
theorem oth_other (e : TypeId) (B : Nat) (W0 : World) : (oth B W0).other e := fun w h g hg c fz he => by
  obtain ⟨h1, o, ho, hc⟩ := mem_ncells.1 hg
  have := h.2 g o h1 ho hc
  rw [this] at he
  injection he with he
  rw [he] at hc
  cases hc
theorem St.oth {B : Nat} {w0 w : World} {A : List It} (h : St B w0 w A) (hc : ∀ x ∈ A, x.cellsI) : St B w0 w (oth B w :: A) := by
  refine ⟨h.below, h.base, fun x hx => ?_, fun x hx g hg => ?_, List.pairwise_cons.2 ⟨fun x hx g hg hgx => ?_, h.apart⟩⟩
  · rcases List.mem_cons.1 hx with rfl | hx
    · exact ⟨Nat.le_refl _, fun k o _ ho _ => ho⟩
    · exact h.own x hx
  · rcases List.mem_cons.1 hx with rfl | hx
    · exact (mem_ncells.1 hg).1
    · exact h.low x hx g hg
  · obtain ⟨_, o, ho, hn⟩ := mem_ncells.1 hg
    obtain ⟨c, t, f, he⟩ := hc x hx w (h.own x hx) g hgx
    rw [ho] at he
    injection he with he
    rw [he] at hn
    cases hn
/-- The turn of a block that is no cells. -/
theorem St.turn {B : Nat} {w0 W W' : World} {A : List It} {row : Option Nat} (h : St B w0 W A) (hc : ∀ x ∈ A, x.cellsI) (hg : W.grownBy W' row) (hr : ∀ r, row = some r → B ≤ r ∧ ∃ o : Obj, W.heap[r]? = some o ∧ o.isCells = false) : St B w0 W' A := by
  have hle := h.le
  refine ⟨h.below.trans ⟨hg.os, hg.tape, hg.output, hg.size, fun k hk => hg.block k (by omega) (fun e => by have := (hr k e.symm).1; omega)⟩, h.base, fun x hx => ?_, h.low, h.apart⟩
  refine x.loc W W' (fun g hgx => hg.block g (x.lt W (h.own x hx) g hgx) (fun e => ?_)) hg.size (h.own x hx)
  obtain ⟨_, o, ho, hn⟩ := hr g e.symm
  obtain ⟨c, t, f, he⟩ := hc x hx W (h.own x hx) g hgx
  rw [ho] at he
  injection he with he
  rw [he] at hn
  cases hn
theorem oth_keeps {B : Nat} {W0 w : World} (h : (Go.Proofs.YtjekdodboihfhaaDoor.oth B W0).P w) : KeepsFrom B W0 w := ⟨h.1, fun k o hk ho hc => h.2 k o hk ho hc⟩
end Go.Proofs.YtjekdodboihfhaaDoor

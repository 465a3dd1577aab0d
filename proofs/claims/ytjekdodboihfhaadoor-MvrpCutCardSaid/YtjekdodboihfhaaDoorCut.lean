/- A text that is cut: reading runs out. No program in sight. -/
import Derived.Test.YtjekdodboihfhaaDoorRsL
set_option linter.all false
namespace Go.Proofs.YtjekdodboihfhaaDoor
/-- What is left is the beginning of l, not the whole of it; or the text has run out. -/
def Cut (R : RS) (l : List UInt8) : Prop := (∃ r, R.Left r ∧ r.length < l.length ∧ ∃ m, l = r ++ m) ∨ ∃ p, R.err = some (7, p)
theorem Cut.nil {R : RS} (h : Cut R []) : ∃ p, R.err = some (7, p) := by
  rcases h with ⟨r, _, h, _⟩ | h
  · simp at h
  · exact h
theorem Cut.had {R : RS} {l : List UInt8} {p : Int} (h : R.err = some (7, p)) : Cut R l := .inr ⟨p, h⟩
theorem Cut.new (t : List UInt8) (k off : Nat) (hk : k < t.length) (hl : off + t.length ≤ 4611686018427387904) : Cut (newM (t.take k) off) t :=
  .inl ⟨t.take k, newM_left _ _ (by rw [List.length_take]; omega), by rw [List.length_take]; omega, t.drop k, (List.take_append_drop k t).symm⟩
theorem Cut.bytes {R : RS} {c rest : List UInt8} (h : Cut R (c ++ rest)) {n : Nat} (hn : c.length = n) : Cut (bytesM R n).2 rest ∧ ((bytesM R n).2.err = none → (bytesM R n).1 = c) := by
  subst hn
  rcases h with ⟨r, hL, hl, m, hm⟩ | ⟨p, hp⟩
  · by_cases hle : c.length ≤ r.length
    · have h1 : r.take c.length = c := by
        have := congrArg (List.take c.length) hm
        rw [List.take_left' rfl, List.take_append_of_le_length hle] at this
        exact this.symm
      have h2 : rest = r.drop c.length ++ m := by
        have := congrArg (List.drop c.length) hm
        rw [List.drop_left' rfl, List.drop_append_of_le_length hle] at this
        exact this
      have hL' : R.Left (c ++ r.drop c.length) := by
        have := List.take_append_drop c.length r
        rw [h1] at this
        rw [this]; exact hL
      have e := bytesM_left hL' rfl
      rw [e]
      refine ⟨.inl ⟨_, hL'.skip rfl, ?_, m, h2⟩, fun _ => rfl⟩
      rw [List.length_append] at hl
      rw [List.length_drop]; omega
    · have hlen := hL.len
      have e := bytesM_no hL.none (n := c.length) (by omega)
      rw [e]
      exact ⟨.inr ⟨_, rfl⟩, fun h => by cases h⟩
  · rw [bytesM_had hp]
    exact ⟨.inr ⟨p, hp⟩, fun h => by rw [hp] at h; cases h⟩
theorem Cut.num {R : RS} {c rest : List UInt8} (h : Cut R (c ++ rest)) {n : Nat} (hn : c.length = n) : Cut (numM R n).2 rest ∧ ((numM R n).2.err = none → (numM R n).1 = beNum c) := by
  obtain ⟨h1, h2⟩ := h.bytes hn
  exact ⟨h1, fun e => by unfold numM; rw [h2 e]⟩
theorem Cut.fail {R : RS} {l : List UInt8} (h : Cut R l) (hne : R.err ≠ none) (e p : Int) : Cut (failM R e p) l := by
  rcases h with ⟨r, hL, _⟩ | ⟨q, hq⟩
  · exact absurd hL.none hne
  · rw [failM_had hq]; exact .inr ⟨q, hq⟩
end Go.Proofs.YtjekdodboihfhaaDoor

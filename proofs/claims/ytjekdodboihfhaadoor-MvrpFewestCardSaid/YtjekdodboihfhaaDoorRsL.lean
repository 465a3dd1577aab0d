/- What stands next in a text that is read. No program in sight. -/
import Derived.Test.YtjekdodboihfhaaDoorRs
set_option linter.all false
namespace Go.Proofs.YtjekdodboihfhaaDoor
/-- No error, and this is what is left. -/
structure RS.Left (R : RS) (rest : List UInt8) : Prop where
  none : R.err = none
  ok : R.ok
  left : R.s.drop R.at_ = rest
def RS.skip (R : RS) (n : Nat) : RS := { R with at_ := R.at_ + n }
theorem RS.Left.len {R : RS} {rest : List UInt8} (h : R.Left rest) : R.at_ + rest.length = R.s.length := by
  have h1 := congrArg List.length h.left
  have h2 := h.ok.le
  simp only [List.length_drop] at h1
  omega
theorem RS.Left.skip {R : RS} {c rest : List UInt8} (h : R.Left (c ++ rest)) {n : Nat} (hn : c.length = n) : (R.skip n).Left rest := by
  subst hn
  have hl := h.len
  simp only [List.length_append] at hl
  refine ⟨h.none, ⟨by show R.at_ + c.length ≤ R.s.length; omega, h.ok.lim⟩, ?_⟩
  show R.s.drop (R.at_ + c.length) = rest
  rw [← List.drop_drop, h.left]; simp
theorem bytesM_left {R : RS} {c rest : List UInt8} (h : R.Left (c ++ rest)) {n : Nat} (hn : c.length = n) : bytesM R n = (c, R.skip n) := by
  have hl := h.len
  simp only [List.length_append] at hl
  rw [bytesM_ok h.none (by omega), h.left]
  subst hn
  simp [RS.skip]
theorem numM_left {R : RS} {c rest : List UInt8} (h : R.Left (c ++ rest)) {n : Nat} (hn : c.length = n) : numM R n = (beNum c, R.skip n) := by
  unfold numM; rw [bytesM_left h hn]
theorem numM_be {R : RS} {x n : Nat} {rest : List UInt8} (h : R.Left (beBytes x n ++ rest)) (hx : x < 256 ^ n) : numM R n = (x, R.skip n) := by
  rw [numM_left h (beBytes_len x n), beNum_beBytes n x hx]
theorem newM_left (s : List UInt8) (off : Nat) (h : off + s.length ≤ 4611686018427387904) : (newM s off).Left s := ⟨rfl, ⟨Nat.zero_le _, h⟩, rfl⟩
theorem zerosM_left {R : RS} {rest : List UInt8} (h : R.Left rest) (hz : ∀ c ∈ rest, c = 0) : zerosM R = (true, { R with at_ := R.s.length }) := by
  refine zerosM_yes h.none ?_
  rw [h.left, List.findIdx?_eq_none_iff]
  intro c hc
  simp [nz, hz c hc]
/-- What must stand next. -/
def headM (R : RS) (want : List UInt8) : RS := if (bytesM R want.length).2.err = none ∧ (bytesM R want.length).1 ≠ want then failM (bytesM R want.length).2 3 (R.place : Int) else (bytesM R want.length).2
theorem headM_left {R : RS} {want rest : List UInt8} (h : R.Left (want ++ rest)) : headM R want = R.skip want.length := by
  unfold headM
  rw [bytesM_left h rfl]
  simp
theorem RS.ok.head {R : RS} (h : R.ok) (want : List UInt8) : (headM R want).ok := by
  unfold headM
  split
  · exact (h.bytes _).fail _ _
  · exact h.bytes _
theorem RS.ok.num {R : RS} (h : R.ok) (n : Nat) : (numM R n).2.ok := h.bytes n
theorem RS.ok.zeros {R : RS} (h : R.ok) : (zerosM R).2.ok := by
  unfold zerosM
  split
  · exact h
  · split
    · exact ⟨Nat.le_refl _, h.lim⟩
    · rename_i j hj
      have := (List.findIdx?_eq_some_iff_getElem.1 hj).1
      simp only [List.length_drop] at this
      exact ⟨by show R.at_ + j ≤ R.s.length; omega, h.lim⟩
theorem failM_err (R : RS) (e p : Int) : (failM R e p).err ≠ none := by
  unfold failM
  split
  · rename_i x hx; rw [hx]; exact fun h => by cases h
  · exact fun h => by cases h
theorem failM_back {R : RS} {e p : Int} (h : (failM R e p).err = none) : False := failM_err R e p h
/-- What was read without an error stood there. -/
theorem bytesM_back {R : RS} {n : Nat} (hok : R.ok) (h : (bytesM R n).2.err = none) : ∃ c rest, c.length = n ∧ R.Left (c ++ rest) ∧ bytesM R n = (c, R.skip n) ∧ (R.skip n).Left rest := by
  cases he : R.err with
  | some x => rw [bytesM_had he] at h; rw [he] at h; cases h
  | none =>
    by_cases hn : R.at_ + n ≤ R.s.length
    · have hL : R.Left ((R.s.drop R.at_).take n ++ (R.s.drop R.at_).drop n) := ⟨he, hok, by rw [List.take_append_drop]⟩
      have hc : ((R.s.drop R.at_).take n).length = n := by simp; omega
      exact ⟨_, _, hc, hL, bytesM_left hL hc, hL.skip hc⟩
    · rw [bytesM_no he hn] at h; cases h
theorem bytesM_err {R : RS} {n : Nat} (h : (bytesM R n).2.err = none) : R.err = none := by
  cases he : R.err with
  | some x => rw [bytesM_had he] at h; rw [he] at h; cases h
  | none => rfl
theorem numM_back {R : RS} {n : Nat} (hok : R.ok) (h : (numM R n).2.err = none) : ∃ c rest, c.length = n ∧ R.Left (c ++ rest) ∧ numM R n = (beNum c, R.skip n) ∧ (R.skip n).Left rest := by
  obtain ⟨c, rest, h1, h2, h3, h4⟩ := bytesM_back hok (n := n) h
  exact ⟨c, rest, h1, h2, by unfold numM; rw [h3], h4⟩
theorem headM_back {R : RS} {want : List UInt8} (hok : R.ok) (h : (headM R want).err = none) : ∃ rest, R.Left (want ++ rest) ∧ headM R want = R.skip want.length ∧ (R.skip want.length).Left rest := by
  unfold headM at h
  split at h
  · exact (failM_back h).elim
  · rename_i hn
    obtain ⟨c, rest, h1, h2, h3, h4⟩ := bytesM_back hok h
    have hc : c = want := by
      rw [h3] at hn
      by_cases e : c = want
      · exact e
      · exact absurd ⟨h4.none, e⟩ hn
    subst hc
    exact ⟨rest, h2, headM_left h2, h4⟩
theorem zerosM_back {R : RS} (hok : R.ok) (h : (zerosM R).1 = true) : ∃ rest, R.Left rest ∧ (∀ c ∈ rest, c = 0) ∧ (zerosM R).2.err = none := by
  cases he : R.err with
  | some x => rw [zerosM_had he] at h; cases h
  | none =>
    cases hf : (R.s.drop R.at_).findIdx? nz with
    | none =>
      refine ⟨_, ⟨he, hok, rfl⟩, ?_, by rw [zerosM_yes he hf]; exact he⟩
      rw [List.findIdx?_eq_none_iff] at hf
      intro c hc
      have := hf c hc
      simpa [nz] using this
    | some j => rw [zerosM_no he hf] at h; cases h
theorem zerosM_err {R : RS} : (zerosM R).1 = true ↔ (zerosM R).2.err = none := by
  unfold zerosM
  split
  · rename_i x hx; rw [hx]; simp
  · rename_i hx
    split
    · simp [hx]
    · simp
end Go.Proofs.YtjekdodboihfhaaDoor

/- A Reader as plain data: its text, its place, its offset, its error. No program in sight. -/
import Derived.Test.YtjekdodboihfhaaDoorBytes
set_option linter.all false
namespace Go.Proofs.YtjekdodboihfhaaDoor
structure RS where
  s : List UInt8
  at_ : Nat
  off : Nat
  err : Option (Int × Int)
structure RS.ok (R : RS) : Prop where
  le : R.at_ ≤ R.s.length
  lim : R.off + R.s.length ≤ 4611686018427387904
def RS.place (R : RS) : Nat := R.off + R.at_
def failM (R : RS) (e p : Int) : RS := match R.err with
  | some _ => R
  | none => { R with err := some (e, p) }
def bytesM (R : RS) (n : Nat) : List UInt8 × RS := match R.err with
  | some _ => ([], R)
  | none => if R.at_ + n ≤ R.s.length then ((R.s.drop R.at_).take n, { R with at_ := R.at_ + n }) else ([], { R with err := some (7, (R.place : Int)) })
def numM (R : RS) (n : Nat) : Nat × RS := (beNum (bytesM R n).1, (bytesM R n).2)
def nz (c : UInt8) : Bool := decide (c ≠ 0)
def zerosM (R : RS) : Bool × RS := match R.err with
  | some _ => (false, R)
  | none => match (R.s.drop R.at_).findIdx? nz with
    | none => (true, { R with at_ := R.s.length })
    | some j => (false, { R with at_ := R.at_ + j, err := some (15, ((R.place + j : Nat) : Int)) })
def newM (s : List UInt8) (off : Nat) : RS := ⟨s, 0, off, none⟩
theorem RS.ok.fail {R : RS} (h : R.ok) (e p : Int) : (failM R e p).ok := by
  unfold failM; split
  · exact h
  · exact ⟨h.le, h.lim⟩
theorem RS.ok.bytes {R : RS} (h : R.ok) (n : Nat) : (bytesM R n).2.ok := by
  unfold bytesM; split
  · exact h
  · split
    · exact ⟨by assumption, h.lim⟩
    · exact ⟨h.le, h.lim⟩
theorem bytesM_had {R : RS} {x : Int × Int} (h : R.err = some x) (n : Nat) : bytesM R n = ([], R) := by unfold bytesM; rw [h]
theorem bytesM_ok {R : RS} (h : R.err = none) {n : Nat} (hn : R.at_ + n ≤ R.s.length) : bytesM R n = ((R.s.drop R.at_).take n, { R with at_ := R.at_ + n }) := by unfold bytesM; rw [h]; simp only []; rw [if_pos hn]
theorem bytesM_no {R : RS} (h : R.err = none) {n : Nat} (hn : ¬ R.at_ + n ≤ R.s.length) : bytesM R n = ([], { R with err := some (7, (R.place : Int)) }) := by unfold bytesM; rw [h]; simp only []; rw [if_neg hn]
theorem failM_had {R : RS} {x : Int × Int} (h : R.err = some x) (e p : Int) : failM R e p = R := by unfold failM; rw [h]
theorem failM_new {R : RS} (h : R.err = none) (e p : Int) : failM R e p = { R with err := some (e, p) } := by unfold failM; rw [h]
theorem zerosM_had {R : RS} {x : Int × Int} (h : R.err = some x) : zerosM R = (false, R) := by unfold zerosM; rw [h]
theorem zerosM_yes {R : RS} (h : R.err = none) (hf : (R.s.drop R.at_).findIdx? nz = none) : zerosM R = (true, { R with at_ := R.s.length }) := by unfold zerosM; rw [h]; simp only []; rw [hf]
theorem zerosM_no {R : RS} (h : R.err = none) {j : Nat} (hf : (R.s.drop R.at_).findIdx? nz = some j) : zerosM R = (false, failM { R with at_ := R.at_ + j } 15 ((R.place + j : Nat) : Int)) := by
  unfold zerosM; rw [h]; simp only []; rw [hf]; rfl
theorem numM_lt (R : RS) (n : Nat) : (numM R n).1 < 256 ^ n := by
  have h := beNum_lt (bytesM R n).1
  have hl : (bytesM R n).1.length ≤ n := by
    unfold bytesM; split
    · simp
    · split
      · simp [List.length_take]; omega
      · simp
  exact Nat.lt_of_lt_of_le h (Nat.pow_le_pow_right (by decide) hl)
theorem bytesM_len_le (R : RS) (n : Nat) : (bytesM R n).1.length ≤ n := by
  unfold bytesM; split
  · simp
  · split
    · simp [List.length_take]; omega
    · simp
theorem bytesM_len {R : RS} {n : Nat} (h : (bytesM R n).2.err = none) : (bytesM R n).1.length = n := by
  unfold bytesM at h ⊢
  split at h
  · rename_i x hx; simp only [] at h; rw [hx] at h; cases h
  · rename_i hx
    split at h
    · rename_i hn; rw [if_pos hn]; simp; omega
    · cases h
theorem beNum_nil' {R : RS} {x : Int × Int} (h : R.err = some x) (n : Nat) : numM R n = (0, R) := by unfold numM; rw [bytesM_had h]; rfl
end Go.Proofs.YtjekdodboihfhaaDoor

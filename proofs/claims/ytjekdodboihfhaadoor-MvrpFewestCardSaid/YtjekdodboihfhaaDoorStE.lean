/- The Reader's calls, their answers as letters. -/
import Derived.Test.YtjekdodboihfhaaDoorStRd
set_option linter.all false
namespace Go.Proofs.YtjekdodboihfhaaDoor
open Go.RowKit
section
variable {B : Nat} {w0 w : World} {A : List It} {b g : Nat} {R : RS}
theorem bytesM_two (R : RS) (n : Nat) : (bytesM R n).1 = [] ∨ (bytesM R n).1.length = n := by
  cases he : R.err with
  | some x => rw [bytesM_had he]; exact .inl rfl
  | none =>
    by_cases hn : R.at_ + n ≤ R.s.length
    · rw [bytesM_ok he hn]; right; simp; omega
    · rw [bytesM_no he hn]; exact .inl rfl
/-- The Reader's calls, their answers as letters. -/
theorem num_e (H : St B w0 w (rd b R g :: A)) (n : Nat) (h1 : 1 ≤ n) (h7 : n ≤ 7) :
    Calls Tryd.prog 24 #[.pointer (some ⟨b, 0, none⟩), .int .i64 (n : Int)] w fun e w' => ∃ x R', numM R n = (x, R') ∧ x < 256 ^ n ∧ e = .returned (.int .i64 (x : Int)) ∧ RdTo B w0 b R' A w' :=
  (num_st H n h1 h7).mono fun _ _ h => ⟨_, _, rfl, numM_lt R n, h.1, h.2⟩
theorem bytes_e (H : St B w0 w (rd b R g :: A)) (n : Nat) (hn : n ≤ 4611686018427387904) :
    Calls Tryd.prog 40 #[.pointer (some ⟨b, 0, none⟩), .int .i64 (n : Int)] w fun e w' => ∃ c R', bytesM R n = (c, R') ∧ (c = [] ∨ c.length = n) ∧ e = .returned (.string ⟨c.toArray⟩) ∧ RdTo B w0 b R' A w' :=
  (bytes_st H n hn).mono fun _ _ h => ⟨_, _, rfl, bytesM_two R n, h.1, h.2⟩
end
theorem zeros_e {B : Nat} {w0 w : World} {A : List It} {b g : Nat} {R : RS} (H : St B w0 w (rd b R g :: A)) :
    Calls Tryd.prog 28 #[.pointer (some ⟨b, 0, none⟩)] w fun e w' => ∃ x R', zerosM R = (x, R') ∧ e = .returned (.bool x) ∧ RdTo B w0 b R' A w' :=
  (zeros_st H).mono fun _ _ h => ⟨_, _, rfl, h.1, h.2⟩
end Go.Proofs.YtjekdodboihfhaaDoor

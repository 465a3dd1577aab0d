/- wire.Put with any number; the order of bytes; bounds of arguments. -/
import Derived.Test.YtjekdodboihfhaaDoorPut
set_option linter.all false
namespace Go.Proofs.YtjekdodboihfhaaDoor
open Go.RowKit
theorem bytesLess_num : ∀ (a b : List UInt8), a.length = b.length → Op.bytesLess a b = decide (beNum a < beNum b)
  | [], [], _ => by simp [Op.bytesLess, beNum]
  | x :: a, y :: b, h => by
    have hl : a.length = b.length := by simpa using h
    have ih := bytesLess_num a b hl
    have ha := beNum_lt a
    have hb := beNum_lt b
    rw [hl] at ha
    rw [Op.bytesLess, ih, beNum_cons, beNum_cons, hl]
    generalize 256 ^ b.length = k at *
    by_cases h1 : x < y
    · have h1' : x.toNat + 1 ≤ y.toNat := UInt8.lt_iff_toNat_lt.1 h1
      have := Nat.mul_le_mul_right k h1'
      rw [Nat.add_mul] at this
      simp [h1]; omega
    · by_cases h2 : x = y
      · subst h2
        simp
      · have h3 : ¬ x.toNat < y.toNat := fun h => h1 (UInt8.lt_iff_toNat_lt.2 h)
        have h4 : x.toNat ≠ y.toNat := fun h => h2 (UInt8.toNat_inj.1 h)
        have h5 : y.toNat + 1 ≤ x.toNat := by omega
        have := Nat.mul_le_mul_right k h5
        rw [Nat.add_mul] at this
        have e1 : ¬ (x.toNat * k + beNum a < y.toNat * k + beNum b) := by omega
        have e2 : (x == y) = false := by simpa using h2
        rw [e2, decide_eq_false e1]
        simp [h1]
theorem wf_u64 {a : Int} (h : (Lit.int .u64 a).wf = true) : 0 ≤ a ∧ a < 18446744073709551616 := by
  have e1 : IntKind.u64.min = 0 := by rfl
  have e2 : IntKind.u64.max = 18446744073709551615 := by rfl
  simp [Lit.wf] at h; omega
theorem wf_i64 {a : Int} (h : (Lit.int .i64 a).wf = true) : -9223372036854775808 ≤ a ∧ a ≤ 9223372036854775807 := by
  have e1 : IntKind.i64.min = -9223372036854775808 := by rfl
  have e2 : IntKind.i64.max = 9223372036854775807 := by rfl
  simp [Lit.wf] at h; omega
def putE (x n : Nat) : Value := if x < 256 ^ n then .nilIface else .iface 32 (.int .i64 12)
def putS (x n : Nat) : List UInt8 := if x < 256 ^ n then beBytes x n else []
theorem put_any (x n : Nat) (hx64 : x < 18446744073709551616) (h1 : 1 ≤ n) (h8 : n ≤ 8) (w : World) :
    Calls Tryd.prog 38 #[.int .u64 (x : Int), .int .i64 (n : Int)] w fun e w' => e = .returned (.tuple #[.string ⟨(putS x n).toArray⟩, putE x n]) ∧ Below w.heap.size w w' := by
  unfold putS putE
  by_cases h : x < 256 ^ n
  · rw [if_pos h, if_pos h]; exact put_ok x n hx64 h1 h8 h w
  · rw [if_neg h, if_neg h]
    have h8' : n < 8 := by
      rcases Nat.lt_or_ge n 8 with h' | h'
      · exact h'
      · exfalso; apply h
        have : n = 8 := by omega
        subst this; omega
    refine put_full x n h1 h8' ?_ w
    intro h0
    apply h
    rw [show (256 : Nat) ^ n = 2 ^ (8 * n) by rw [Nat.pow_mul]]
    exact (Nat.div_eq_zero_iff_lt (Nat.two_pow_pos _)).1 h0
end Go.Proofs.YtjekdodboihfhaaDoor

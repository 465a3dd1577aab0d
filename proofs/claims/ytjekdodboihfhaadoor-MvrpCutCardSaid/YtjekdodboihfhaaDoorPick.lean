/- 'pick': a number that stands for one of n. -/
import Derived.Test.YtjekdodboihfhaaDoorRows
import Derived.Test.YtjekdodboihfhaaDoorKit
set_option linter.all false
namespace Go.Proofs.YtjekdodboihfhaaDoor
open Go.RowKit
def pickN (a : Int) (n : Nat) : Nat := (a % 18446744073709551616).toNat % n
theorem pickN_lt (a : Int) (n : Nat) (h : 1 ≤ n) : pickN a n < n := Nat.mod_lt _ h
theorem pick_val (a : Int) (n : Nat) (hn : 1 ≤ n) (hn2 : n ≤ 9223372036854775807) : wrap64 ((IntKind.u64.wrap a).tmod (n : Int)) = ((pickN a n : Nat) : Int) := by
  unfold pickN
  have e : IntKind.u64.wrap a = a % 18446744073709551616 := by simp [IntKind.wrap, IntKind.bits, IntKind.signed]
  have h1 : 0 ≤ a % 18446744073709551616 := Int.emod_nonneg _ (by decide)
  rw [e, Int.tmod_eq_emod_of_nonneg h1]
  generalize a % 18446744073709551616 = b at h1
  obtain ⟨m, rfl⟩ := Int.eq_ofNat_of_zero_le h1
  rw [Int.toNat_natCast, ← Int.natCast_emod]
  have h3 : m % n < n := Nat.mod_lt _ hn
  exact IntWalk.wrap64_in _ ⟨by omega, by omega⟩
theorem pick_any (a : Int) (n : Nat) (w : World) (hn : 1 ≤ n) (hn2 : n ≤ 9223372036854775807) :
    Calls Tryd.prog 9 #[.int .i64 a, .int .i64 (n : Int)] w fun e w' => e = .returned (.int .i64 (pickN a n : Nat)) ∧ w = w' := by
  go_enter Tryd.func9, Tryd.ntmps9
  go_wp2
  go_ret
  refine ⟨ret_int ?_, rfl⟩
  exact pick_val a n hn hn2
end Go.Proofs.YtjekdodboihfhaaDoor

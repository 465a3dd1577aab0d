/- wire.Must. -/
import Derived.Test.YtjekdodboihfhaaDoorWireAid
set_option linter.all false
namespace Go.Proofs.YtjekdodboihfhaaDoor
open Go.RowKit
theorem must_ok (x n : Nat) (h1 : 1 ≤ n) (h7 : n ≤ 7) (hx : x < 256 ^ n) (w : World) :
    Calls Tryd.prog 20 #[.int .i64 (x : Int), .int .i64 (n : Int)] w fun e w' => e = .returned (.string ⟨(beBytes x n).toArray⟩) ∧ Below w.heap.size w w' := by
  have hx7 : x < 72057594037927936 := Nat.lt_of_lt_of_le hx (show 256 ^ n ≤ 256 ^ 7 from Nat.pow_le_pow_right (by decide) h7)
  have Hx := Lib.hid hx
  clear hx
  go_enter Tryd.func20, Tryd.ntmps20
  go_wp2_with fail
  refine (put_ok x n (by omega) h1 (by omega) Hx.out _).mono ?_
  rintro e w1 ⟨rfl, hb1⟩
  go_wp2_with fail
  go_ret
  exact ⟨rfl, hb1⟩
end Go.Proofs.YtjekdodboihfhaaDoor

/- bpdu.Flags, bpdu.Byte, bpdu.Of. -/
import Derived.Test.YtidcjbanhdpkkaaRows
import Derived.Test.YtidcjbanhdpkkaaKit
import Derived.Test.YtidcjbanhdpkkaaWireAid
namespace Go.Proofs.Ytidcjbanhdpkkaa
open Go.RowKit
set_option maxRecDepth 100000 in
set_option maxHeartbeats 1000000 in
theorem flags_any (c p l s g a : Bool) (r : Int) (w : World) :
    Calls Try.prog 21 #[.agg #[.bool c, .bool p, .int .i64 r, .bool l, .bool s, .bool g, .bool a]] w fun e w' =>
      e = .returned (.bool (decide (0 ≤ r) && decide (r ≤ 3))) ∧ Below w.heap.size w w' := by
  go_enter Try.func21, Try.ntmps21
  go_wp2_with fail
  all_goals
    go_ret
    refine ⟨?_, by go_grown⟩
  all_goals first
    | (rw [show (decide (0 ≤ r) && decide (r ≤ 3)) = false by simp; omega]; rfl)
    | (rw [show (decide (0 ≤ r) && decide (r ≤ 3)) = decide (r ≤ 3) by simp; omega]; rfl)
def fbits (c p l s g a : Bool) : List Bool := [c, p, false, false, l, s, g, a]
def facc (bs : List Bool) (r : Nat) : Nat → Nat
  | 0 => r * 4
  | k + 1 => if bs.getD k false = true then facc bs r k ||| 2 ^ k else facc bs r k
theorem facc_lt (bs : List Bool) (r : Nat) (hr : r < 4) : ∀ k, k ≤ 8 → facc bs r k < 256
  | 0, _ => by simp only [facc]; omega
  | k + 1, h => by
    have ih := facc_lt bs r hr k (by omega)
    simp only [facc]
    split
    · exact Nat.or_lt_two_pow (n := 8) ih (Nat.pow_lt_pow_right (by decide) (by omega))
    · exact ih
theorem or_nat (a b : Nat) (ha : a < 256) (hb : b < 256) : bits .or .i64 (a : Int) (b : Int) = ((a ||| b : Nat) : Int) := by
  have hx : a ||| b < 2 ^ 8 := Nat.or_lt_two_pow (n := 8) ha hb
  have h1 : (BitVec.ofInt 64 (a : Int)).toNat = a := by rw [BitVec.ofInt_natCast, BitVec.toNat_ofNat]; exact Nat.mod_eq_of_lt (by omega)
  have h2 : (BitVec.ofInt 64 (b : Int)).toNat = b := by rw [BitVec.ofInt_natCast, BitVec.toNat_ofNat]; exact Nat.mod_eq_of_lt (by omega)
  show IntKind.i64.wrap ((BitVec.ofInt 64 (a : Int) ||| BitVec.ofInt 64 (b : Int)).toNat : Int) = _
  rw [BitVec.toNat_or, h1, h2, IntKind.wrap_i64]
  omega
theorem flag_index (c p l s g a : Bool) (k : Nat) (hk : k < 8) (W : World) :
    (Instr.index 99 (.agg #[.bool c, .bool p, .bool false, .bool false, .bool l, .bool s, .bool g, .bool a]) (.int .i64 (k : Int))).run Try.prog W = .ok (.bool ((fbits c p l s g a).getD k false)) W := by
  rcases k with _ | _ | _ | _ | _ | _ | _ | _ | k
  all_goals first | (exfalso; omega) | kernel_rfl
theorem pow_wrap (k : Nat) (hk : k < 8) : wrap64 ((2 : Int) ^ k) = 2 ^ k := by
  rcases k with _ | _ | _ | _ | _ | _ | _ | _ | k
  all_goals first | (exfalso; omega) | kernel_rfl
set_option maxRecDepth 100000 in
set_option maxHeartbeats 1000000 in
theorem byte_any (c p l s g a : Bool) (r : Nat) (hr : r < 4) (w : World) :
    Calls Try.prog 23 #[.agg #[.bool c, .bool p, .int .i64 (r : Int), .bool l, .bool s, .bool g, .bool a]] w fun e w' =>
      e = .returned (.int .i64 (facc (fbits c p l s g a) r 8 : Nat)) ∧ Below w.heap.size w w' := by
  have hidx := flag_index c p l s g a
  have Hidx := Lib.hid hidx
  clear hidx
  have Hlt := Lib.hid (facc_lt (fbits c p l s g a) r hr)
  generalize hbs : fbits c p l s g a = bs at *
  go_enter Try.func23, Try.ntmps23
  go_wp2_with fail
  go_loop [3, 22] (fun n i => ∃ k : Nat, k ≤ 8 ∧ i = .int .i64 k ∧ n = .int .i64 (facc bs r k : Nat)) (fun _ i => 8 - (intOf i).toNat)
  case atStart => exact ⟨0, by omega, rfl, by simp [facc]⟩
  case round =>
    obtain ⟨k, hk, rfl, rfl⟩ := hrel
    by_cases hlt : k < 8
    · have hx := Hidx.out k hlt
      have ho := or_nat (facc bs r k) (2 ^ k) (Hlt.out k hk) (Nat.pow_lt_pow_right (n := 8) (by decide) (by omega))
      rw [Int.natCast_pow] at ho
      have hw64 : wrap64 ((2 : Int) ^ k) = 2 ^ k := pow_wrap k hlt
      have Hw := Lib.hid hw64
      clear hw64
      cases hb : bs.getD k false
      · rw [hb] at hx
        have hf : facc bs r (k + 1) = facc bs r k := by simp only [facc, hb]; simp
        have Hf := Lib.hid hf
        clear hf hb
        go_wp2_with fail
        go_round
        case rel => exact ⟨k + 1, by omega, by go_num, by rw [Hf.out]⟩
        case measure => simp [intOf]; omega
      · rw [hb] at hx
        have hf : facc bs r (k + 1) = facc bs r k ||| 2 ^ k := by simp only [facc, hb]; simp
        have Hf := Lib.hid hf
        clear hf hb
        go_wp2_with fail
        go_round
        case rel => exact ⟨k + 1, by omega, by go_num, by rw [Hf.out, Hw.out]; exact congrArg _ ho⟩
        case measure => simp [intOf]; omega
    · have : k = 8 := by omega
      subst this
      go_wp2_with fail
      go_ret
      exact ⟨rfl, by go_grown⟩
end Go.Proofs.Ytidcjbanhdpkkaa

/- pause.Long. -/
import Derived.Test.YtidcjbanhdpkkaaDoorPause
namespace Go.Proofs.YtidcjbanhdpkkaaDoor
open Go.RowKit
theorem ofInt_i64' (a : Nat) (ha : a < 9223372036854775808) : (BitVec.ofInt 64 (a : Int)).toNat = a := by
  rw [BitVec.ofInt_natCast, BitVec.toNat_ofNat]; exact Nat.mod_eq_of_lt (by omega)
theorem i64_and_nat (a b : Nat) (ha : a < 9223372036854775808) (hb : b < 9223372036854775808) : bits .and .i64 (a : Int) (b : Int) = ((a &&& b : Nat) : Int) := by
  have hx : a &&& b < 2 ^ 63 := Nat.and_lt_two_pow _ (by omega)
  show IntKind.i64.wrap ((BitVec.ofInt 64 (a : Int) &&& BitVec.ofInt 64 (b : Int)).toNat : Int) = _
  rw [BitVec.toNat_and, ofInt_i64' a ha, ofInt_i64' b hb, IntKind.wrap_i64]
  omega
theorem bit_and (n k : Nat) (hn : n < 9223372036854775808) : bits .and .i64 ((n : Int) / 2 ^ k) 1 = ((n / 2 ^ k % 2 : Nat) : Int) := by
  have h := i64_and_nat (n / 2 ^ k) 1 (Nat.lt_of_le_of_lt (Nat.div_le_self _ _) hn) (by decide)
  rw [nat_mask1] at h
  simpa using h
def pauseLong (b : Bool) (en : Nat) (ts : List Int) (k : Nat) : Int := if b = false then ts.getD 0 0 else if en / 2 ^ k % 2 = 1 then ts.getD k 0 else 0
theorem pause_cell (b : Bool) (en t0 t1 t2 t3 t4 t5 t6 t7 : Int) (t : TypeId) (w : World) (k : Nat) (hk : k < 8) :
    (w.alloc (.cells #[.bool b, .int .i64 en, .int .i64 t0, .int .i64 t1, .int .i64 t2, .int .i64 t3, .int .i64 t4, .int .i64 t5, .int .i64 t6, .int .i64 t7] t)).cell? ⟨w.heap.size, 2 + k, none⟩ = some (.int .i64 ([t0, t1, t2, t3, t4, t5, t6, t7].getD k 0)) := by
  rw [World.cell?_alloc_mark]
  rcases k with _ | _ | _ | _ | _ | _ | _ | _ | k
  all_goals first | (exfalso; omega) | rfl
set_option maxRecDepth 100000 in
set_option maxHeartbeats 1000000 in
theorem pauseLong_any (b : Bool) (en : Nat) (t0 t1 t2 t3 t4 t5 t6 t7 : Int) (k : Nat) (hen : en ≤ 255) (hk : k < 8) (w : World) :
    Calls Tryd.prog 55 #[.agg #[.bool b, .int .i64 (en : Int), .int .i64 t0, .int .i64 t1, .int .i64 t2, .int .i64 t3, .int .i64 t4, .int .i64 t5, .int .i64 t6, .int .i64 t7], .int .i64 (k : Int)] w fun e w' =>
      e = .returned (.int .i64 (pauseLong b en [t0, t1, t2, t3, t4, t5, t6, t7] k)) ∧ Below w.heap.size w w' := by
  have hc := pause_cell b (en : Int) t0 t1 t2 t3 t4 t5 t6 t7 60 w k hk
  have hb := bit_and en k (by omega)
  generalize ht : [t0, t1, t2, t3, t4, t5, t6, t7].getD k 0 = tk at hc
  have Ht := Lib.hid ht
  clear ht
  cases b
  · go_enter Tryd.func55, Tryd.ntmps55
    go_wp2_with fail
    go_ret
    exact ⟨rfl, (Below.refl _ w).alloc (Nat.le_refl _) _⟩
  · rcases Nat.mod_two_eq_zero_or_one (en / 2 ^ k) with h2 | h2
    · rw [h2] at hb
      have H2 := Lib.hid h2
      clear h2
      go_enter Tryd.func55, Tryd.ntmps55
      go_wp2_with fail
      go_ret
      refine ⟨ret_int ?_, (Below.refl _ w).alloc (Nat.le_refl _) _⟩
      unfold pauseLong
      rw [if_neg (by simp), if_neg (by rw [H2.out]; simp)]
    · rw [h2] at hb
      have H2 := Lib.hid h2
      clear h2
      go_enter Tryd.func55, Tryd.ntmps55
      go_wp2_with fail
      go_ret
      refine ⟨ret_int ?_, (Below.refl _ w).alloc (Nat.le_refl _) _⟩
      unfold pauseLong
      rw [if_neg (by simp), if_pos H2.out, Ht.out]
end Go.Proofs.YtidcjbanhdpkkaaDoor

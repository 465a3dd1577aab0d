/- The walks of package crc. -/
import Derived.Test.YtdeaednccdoklaaRows
import Derived.Test.YtdeaednccdoklaaKit
import Derived.Test.YtdeaednccdoklaaCrcLaw
namespace Go.Proofs.Ytdeaednccdoklaa
open Go.RowKit
theorem odd_and (n : Nat) (hn : n < 4294967296) : bits .and .u32 (n : Int) 1 = ((n % 2 : Nat) : Int) := by
  have h := u32_and_nat n 1 hn (by decide)
  rw [nat_mask1] at h
  exact h

set_option maxRecDepth 100000 in
theorem sum_any (s : List UInt8) (w : World) (hs : s.length ≤ 9223372036854775807) :
    Calls Try.prog 10 #[.string ⟨s.toArray⟩] w fun e w' => e = .returned (.int .u32 (crcSum s : Nat)) ∧ Below w.heap.size w w' := by
  obtain ⟨cap, w1, hcap, hconv, hb, hz, hc⟩ := conv_bytesL (P := Try.prog) w 9 23 5 s Try.underlying9 Try.underlying23 Try.underlying5
  have Hc := Lib.hid hc
  clear hc
  go_enter Try.func10, Try.ntmps10
  go_wp2
  go_loop [3, 10] (fun c i => ∃ (k n : Nat), k ≤ s.length ∧ i = .int .i64 k ∧ c = .int .u32 n ∧ n < 4294967296 ∧ Hid (n = crcFold (s.take k) 4294967295)) (fun _ i => s.length - (intOf i).toNat)
  case atStart => exact ⟨0, 4294967295, by omega, rfl, rfl, by omega, rfl⟩
  case round =>
    obtain ⟨k, n, hk, rfl, rfl, hn, HN⟩ := hrel
    by_cases hlt : k < s.length
    · have hck := (Hc.out k hlt).1
      have hbyte : (s[k].toNat : Int) < 256 := by have := s[k].toNat_lt; omega
      have hx := u32_xor_nat n s[k].toNat hn (byte_lt32 _)
      have hx32 := xor_lt32 hn (byte_lt32 s[k])
      generalize hm : n ^^^ s[k].toNat = m at hx hx32
      have Hm := Lib.hid hm
      clear hm
      go_wp2
      clear hx
      go_loop [3, 18] (fun c j => ∃ (q p : Nat), q ≤ 8 ∧ j = .int .i64 q ∧ c = .int .u32 p ∧ p < 4294967296 ∧ Hid (p = crcBits q m)) (fun _ j => 8 - (intOf j).toNat)
      case atStart => exact ⟨0, m, by omega, rfl, rfl, hx32, rfl⟩
      case round =>
        obtain ⟨q, p, hq, rfl, rfl, hp, HP⟩ := hrel
        have ha := odd_and p hp
        by_cases hq8 : q < 8
        · rcases Nat.mod_two_eq_zero_or_one p with h2 | h2
          · rw [h2] at ha
            go_wp2
            all_goals
              go_round
              case rel => exact ⟨q + 1, p / 2, by omega, by go_num, by go_num, by omega, by unfold Hid crcBits; rw [← HP.out]; unfold crcBit; rw [if_neg (by omega)]⟩
              case measure => simp [intOf]; omega
          · rw [h2] at ha
            have hx : bits .xor .u32 ((p : Int) / 2) 3988292384 = ((p / 2 ^^^ 3988292384 : Nat) : Int) := u32_xor_nat (p / 2) 3988292384 (by omega) (by omega)
            go_wp2
            all_goals
              go_round
              case rel => exact ⟨q + 1, p / 2 ^^^ 3988292384, by omega, by go_num, by go_num, xor_lt32 (by omega) (by omega), by unfold Hid crcBits; rw [← HP.out]; unfold crcBit; rw [if_pos h2]⟩
              case measure => simp [intOf]; omega
        · go_wp2
          go_round
          case rel => exact ⟨k + 1, p, by omega, by go_num, rfl, hp, by
            have hq8' : q = 8 := by omega
            unfold Hid
            rw [takeL_snoc s k hlt, crcFold_snoc, ← HN.out, HP.out, hq8', ← Hm.out]
            rfl⟩
          case measure => simp [intOf]; omega
    · go_wp2
      go_ret
      refine ⟨ret_int ?_, hb⟩
      refine (u32_xor_nat 4294967295 n (by omega) hn).trans ?_
      rw [HN.out, List.take_of_length_le (by omega), Nat.xor_comm]
      rfl
end Go.Proofs.Ytdeaednccdoklaa

/- The walk of CrcBent. -/
import Derived.Test.YtdeaednccdoklaaCrcLaws
import Derived.Test.YtdeaednccdoklaaCrcLaw3
import Derived.Test.YtdeaednccdoklaaPick
namespace Go.Proofs.Ytdeaednccdoklaa
open Go.RowKit
theorem pow8 (n : Nat) : (UInt8.ofNat (2 ^ (n % 8))).toNat = 2 ^ (n % 8) := by
  have h : n % 8 < 8 := Nat.mod_lt _ (by decide)
  generalize n % 8 = j at h
  match j, h with
  | 0, _ | 1, _ | 2, _ | 3, _ | 4, _ | 5, _ | 6, _ | 7, _ => rfl
theorem pow8i (n : Nat) : ((2 : Int) ^ (n % 8)) % 256 = ((2 ^ (n % 8) : Nat) : Int) := by
  have h : n % 8 < 8 := Nat.mod_lt _ (by decide)
  generalize n % 8 = j at h
  match j, h with
  | 0, _ | 1, _ | 2, _ | 3, _ | 4, _ | 5, _ | 6, _ | 7, _ => rfl
theorem wf_u32 {a : Int} (h : IntKind.u32.min ≤ a ∧ a ≤ IntKind.u32.max) : 0 ≤ a ∧ a < 4294967296 := by
  have e1 : IntKind.u32.min = 0 := by rfl
  have e2 : IntKind.u32.max = 4294967295 := by rfl
  omega
set_option maxRecDepth 100000 in
set_option maxHeartbeats 1000000 in
theorem law_CrcBent (s : List UInt8) (at_ bits_ : Int) (hs : s.length ≤ 9223372036854775807) (hat : (Lit.int .i64 at_).wf = true) (hbits : (Lit.int .u32 bits_).wf = true) (w : World) :
    Calls Try.prog 6 #[.string ⟨s.toArray⟩, .int .i64 at_, .int .u32 bits_] w fun e w' => e = .returned (.bool true) ∧ Below w.heap.size w w' := by
  have hb0 : 0 ≤ bits_ ∧ bits_ < 4294967296 := by simp [Lit.wf] at hbits; exact wf_u32 hbits
  obtain ⟨b, rfl⟩ := Int.eq_ofNat_of_zero_le hb0.1
  have hb1' : b < 4294967296 := by omega
  clear hb0 hbits hat
  by_cases h3 : s.length ≤ 300
  · go_enter Try.func6, Try.ntmps6
    go_wp2_with fail
    refine (summed_any _).mono ?_
    rintro e w1 ⟨rfl, hb1⟩
    go_wp2_with fail
    refine (seal_any s _ (by omega)).mono ?_
    rintro e w2 ⟨rfl, hb2⟩
    have hlen := crcSeal_len s
    obtain ⟨cap, w3, hcap, hcv, hb3, hz3, hx3⟩ := conv_bytesL (P := Try.prog) w2 9 23 5 (crcSeal s) Try.underlying9 Try.underlying23 Try.underlying5
    have Hx3 : Hid (BytesAt w3 w2.heap.size (crcSeal s)) := hx3
    have hm4 : 4 ≤ (crcSeal s).length := by omega
    have hm304 : (crcSeal s).length ≤ 304 := by omega
    generalize hm : (crcSeal s).length = m at hcv hcap hm4 hm304
    have Hm := Lib.hid hm
    have h0 : ((m : Int) == 0) = false := by simp; omega
    have hb23 := hb1.trans ((hb2.mono hb1.size).trans (hb3.mono (Nat.le_trans hb1.size hb2.size)))
    have hw2 : w.heap.size ≤ w2.heap.size := Nat.le_trans hb1.size hb2.size
    clear hx3 hlen hm hb3
    go_wp2_with fail
    rw [show (8 * (m : Int)) = ((8 * m : Nat) : Int) by omega]
    refine (pick_any at_ (8 * m) _ (by omega) (by omega)).mono ?_
    rintro e w' ⟨rfl, rfl⟩
    have hp := pickN_lt at_ (8 * m) (by omega)
    generalize pickN at_ (8 * m) = p at hp
    go_wp2_with fail
    go_loopw [8, 9] (fun t i wr => ∃ (k : Nat) (L : List UInt8), k ≤ 32 ∧ i = .int .i64 k ∧ t = .bool (decide (b % 2 ^ k ≠ 0)) ∧ Hid (L.length = m) ∧ Hid (leNum L = leNum (crcSeal s) ^^^ (b % 2 ^ k * 2 ^ p)) ∧ Hid (BytesAt wr w2.heap.size L) ∧ Below w.heap.size w wr ∧ w2.heap.size < wr.heap.size) (fun _ i _ => 32 - (intOf i).toNat)
    case atStart => exact ⟨0, crcSeal s, by omega, rfl, by simp [Nat.mod_one], Hm, by simp [Hid, Nat.mod_one], Hx3, hb23, hz3⟩
    case round =>
      obtain ⟨k, L, hk, rfl, rfl, HL, HN, HX, hbr, hzr⟩ := hrel
      by_cases hk32 : k < 32
      · by_cases hr : p + k < 8 * m
        · rcases Nat.mod_two_eq_zero_or_one (b / 2 ^ k) with h2 | h2
          · have ha : bits .and .u32 ((b : Int) / 2 ^ k) 1 = 0 := by
              have := odd_and (b / 2 ^ k) (Nat.lt_of_le_of_lt (Nat.div_le_self _ _) hb1')
              rw [h2] at this
              simpa using this
            have hlow := low_nobit b k h2
            have Hlow := Lib.hid hlow
            clear hlow h2
            go_wp2_with fail
            go_roundw
            case rel => exact ⟨k + 1, L, by omega, by go_num, by rw [Hlow.out]; simp, HL, by rw [Hlow.out]; exact HN, HX, hbr, hzr⟩
            case measure => simp [intOf]; omega
          · have ha : bits .and .u32 ((b : Int) / 2 ^ k) 1 = 1 := by
              have := odd_and (b / 2 ^ k) (Nat.lt_of_le_of_lt (Nat.div_le_self _ _) hb1')
              rw [h2] at this
              simpa using this
            have hj : (p + k) / 8 < L.length := by rw [HL.out]; omega
            have hj2 : (p + k) / 8 < m := by omega
            obtain ⟨hcell, hfr⟩ := HX.out _ hj
            have hv := pow8 (p + k)
            have hst := bent_step (crcSeal s) L b p k HN.out h2 hj (UInt8.ofNat (2 ^ ((p + k) % 8))) hv
            have hx := byte_xor L[(p + k) / 8] (UInt8.ofNat (2 ^ ((p + k) % 8)))
            generalize L[(p + k) / 8] ^^^ (UInt8.ofNat (2 ^ ((p + k) % 8))) = r at hx hst
            rw [hv, ← pow8i] at hx
            generalize L[(p + k) / 8] = c at hcell hx
            have hnz := low_ne_zero b k h2
            have Hnz := Lib.hid hnz
            have Hst := Lib.hid hst
            have Hv := Lib.hid hv
            clear hj hst hv h2 hnz
            go_wp2_with fail
            go_region
            go_wp2_with fail
            go_roundw
            case rel =>
              exact ⟨k + 1, L.set ((p + k) / 8) r, by omega, by go_num, by rw [decide_eq_true Hnz.out], by simp [Hid, HL.out], Hst, BytesAt.drew (BytesAt.set HX.out _ r), (hbr.setCell (by omega) _).drew, by simpa using hzr⟩
            case measure => simp [intOf]; omega
        · have hE : b % 2 ^ k < 4294967296 := Nat.lt_of_le_of_lt (Nat.mod_le _ _) hb1'
          have hob := burst s L (b % 2 ^ k) p (HL.out.trans Hm.out.symm) hE (by rw [HL.out]; omega) HN.out
          have hcv2 := conv_row (P := Try.prog) HX.out 23 9 5 cap Try.underlying23 Try.underlying5 Try.underlying9
          rw [HL.out] at hcv2
          have Hob := Lib.hid hob
          clear hob
          by_cases hE0 : b % 2 ^ k = 0
          · go_wp2_with fail
            refine (open_good L _ (by rw [HL.out]; omega) (by rw [HL.out]; omega) (by rw [Hob.out, decide_eq_true hE0])).mono ?_
            rintro e w4 ⟨rfl, hb4⟩
            go_wp2_with fail
            go_ret
            exact ⟨rfl, hbr.trans (hb4.mono hbr.size)⟩
          · go_wp2_with fail
            refine (open_bad L _ (by rw [HL.out]; omega) (by rw [HL.out]; omega) (by rw [Hob.out, decide_eq_false hE0])).mono ?_
            rintro e w4 ⟨rfl, hb4⟩
            go_wp2_with fail
            go_ret
            exact ⟨rfl, hbr.trans (hb4.mono hbr.size)⟩
      · have hE : b % 2 ^ k < 4294967296 := Nat.lt_of_le_of_lt (Nat.mod_le _ _) hb1'
        have hob := burst s L (b % 2 ^ k) p (HL.out.trans Hm.out.symm) hE (by rw [HL.out]; omega) HN.out
        have hcv2 := conv_row (P := Try.prog) HX.out 23 9 5 cap Try.underlying23 Try.underlying5 Try.underlying9
        rw [HL.out] at hcv2
        have Hob := Lib.hid hob
        clear hob
        by_cases hE0 : b % 2 ^ k = 0
        · go_wp2_with fail
          refine (open_good L _ (by rw [HL.out]; omega) (by rw [HL.out]; omega) (by rw [Hob.out, decide_eq_true hE0])).mono ?_
          rintro e w4 ⟨rfl, hb4⟩
          go_wp2_with fail
          go_ret
          exact ⟨rfl, hbr.trans (hb4.mono hbr.size)⟩
        · go_wp2_with fail
          refine (open_bad L _ (by rw [HL.out]; omega) (by rw [HL.out]; omega) (by rw [Hob.out, decide_eq_false hE0])).mono ?_
          rintro e w4 ⟨rfl, hb4⟩
          go_wp2_with fail
          go_ret
          exact ⟨rfl, hbr.trans (hb4.mono hbr.size)⟩
  · go_enter Try.func6, Try.ntmps6
    go_wp2_with fail
    refine (summed_any _).mono ?_
    rintro e w1 ⟨rfl, hb1⟩
    go_wp2_with fail
    go_ret
    exact ⟨rfl, hb1⟩
end Go.Proofs.Ytdeaednccdoklaa

import Derived.Test.YtdeaednccdoklaaCrcLaws
namespace Go.Proofs.Ytdeaednccdoklaa
open Go.RowKit
theorem info_byte : (Try.prog.info? 5).map (fun i => (i.zero, i.size, i.bytes)) = some (some (.int .u8 0), 1, 1) := by kernel_rfl
def xor3 (a b c : List UInt8) (n : Nat) : List UInt8 := List.zipWith (· ^^^ ·) (List.zipWith (· ^^^ ·) (a.take n) (b.take n)) (c.take n)
theorem xor3_len (a b c : List UInt8) (n : Nat) (h1 : n ≤ a.length) (h2 : n ≤ b.length) (h3 : n ≤ c.length) : (xor3 a b c n).length = n := by
  unfold xor3; simp; omega
theorem xor3_step (a b c : List UInt8) (n k : Nat) (L : List UInt8) (hL : L.length = n) (hk : k < n) (h1 : n ≤ a.length) (h2 : n ≤ b.length) (h3 : n ≤ c.length) (hT : L.take k = (xor3 a b c n).take k) :
    (L.set k (a[k] ^^^ b[k] ^^^ c[k])).take (k + 1) = (xor3 a b c n).take (k + 1) := by
  have hx : k < (xor3 a b c n).length := by rw [xor3_len a b c n h1 h2 h3]; exact hk
  have hl : k < (L.set k (a[k] ^^^ b[k] ^^^ c[k])).length := by simpa [hL] using hk
  rw [takeL_snoc _ k hx, takeL_snoc _ k hl, ← hT]
  congr 1
  · rw [List.take_set_of_le (Nat.le_refl _)]
  · simp [xor3]
set_option maxHeartbeats 400000 in
theorem law_CrcLinear (a b c : List UInt8) (ha : a.length ≤ 9223372036854775807) (hb : b.length ≤ 9223372036854775807) (hc : c.length ≤ 9223372036854775807) (w : World) :
    Calls Try.prog 3 #[.string ⟨a.toArray⟩, .string ⟨b.toArray⟩, .string ⟨c.toArray⟩] w fun e w' => e = .returned (.bool true) ∧ Below w.heap.size w w' := by
  go_enter Try.func3, Try.ntmps3
  go_wp2_with fail
  refine (summed_any _).mono ?_
  rintro e w1 ⟨rfl, hb1⟩
  have hmin := min_nat4 (P := Try.prog) #[3, 3, 3, 3] 3 a.length b.length c.length 200 w1
  simp only [Int.cast_ofNat_Int] at hmin
  have g1 : min (min (min a.length b.length) c.length) 200 ≤ a.length := by omega
  have g2 : min (min (min a.length b.length) c.length) 200 ≤ b.length := by omega
  have g3 : min (min (min a.length b.length) c.length) 200 ≤ c.length := by omega
  have g4 : min (min (min a.length b.length) c.length) 200 ≤ 200 := by omega
  generalize min (min (min a.length b.length) c.length) 200 = n at hmin g1 g2 g3 g4
  obtain ⟨w2, hmk, hb2, hz2, hx2⟩ := make_bytes (P := Try.prog) 23 5 Try.underlying23 info_byte .i64 .i64 n (by omega) w1
  have Hx2 := Lib.hid hx2
  clear hx2
  go_wp2_with fail
  clear hmin hmk
  go_loopw [23] (fun i wr => ∃ (k : Nat) (L : List UInt8), k ≤ n ∧ i = .int .i64 k ∧ Hid (L.length = n) ∧ Hid (L.take k = (xor3 a b c n).take k) ∧ Hid (BytesAt wr w1.heap.size L) ∧ Below w1.heap.size w1 wr ∧ w1.heap.size < wr.heap.size) (fun i _ => n - (intOf i).toNat)
  case atStart => exact ⟨0, List.replicate n 0, by omega, rfl, by simp [Hid], by simp [Hid], Hx2, hb2, hz2⟩
  case round =>
    obtain ⟨k, L, hk, rfl, HL, HT, HX, hbr, hzr⟩ := hrel
    by_cases hlt : k < n
    · have ga : k < a.length := by omega
      have gb : k < b.length := by omega
      have gc : k < c.length := by omega
      have hx1 := byte_xor a[k] b[k]
      have hx2 := byte_xor (a[k] ^^^ b[k]) c[k]
      rw [UInt8.toNat_xor a[k] b[k]] at hx1 hx2
      have hst := xor3_step a b c n k L HL.out hlt g1 g2 g3 HT.out
      generalize a[k] ^^^ b[k] ^^^ c[k] = r at hx2 hst
      have Hst := Lib.hid hst
      clear hst
      obtain ⟨hcell, hfr⟩ := HX.out k (by rw [HL.out]; exact hlt)
      go_wp2_with fail
      go_region
      go_wp2_with fail
      go_roundw
      case rel => exact ⟨k + 1, L.set k r, by omega, by go_num, by simp [Hid, HL.out], Hst, BytesAt.drew (BytesAt.set HX.out k _), (hbr.setCell (Nat.le_refl _) _).drew, by simpa using hzr⟩
      case measure => simp [intOf]; omega
    · have hkn : k = n := by omega
      have hL : L = xor3 a b c n := by
        have h1 := HT.out
        have hlx := xor3_len a b c n g1 g2 g3
        rw [List.take_of_length_le (by rw [HL.out]; omega), List.take_of_length_le (by rw [hlx]; omega)] at h1
        exact h1
      have hXX := HX.out
      rw [hL] at hXX
      go_wp2_with fail
      refine wp_region_quiet (C := fun w' => Below wr.heap.size wr w') (by kernel_rfl) (by kernel_rfl) ((Below.refl _ wr).drew) ?_
      have hcv : ∀ W, Below wr.heap.size wr W → (convert 23 9 (.slice (some ⟨w1.heap.size, 0, none⟩) n n)).run Try.prog W = .ok (.string ⟨(xor3 a b c n).toArray⟩) W := by
        intro W hW
        have h1 := conv_row (P := Try.prog) (hXX.below hW hzr) 23 9 5 n Try.underlying23 Try.underlying5 Try.underlying9
        rw [xor3_len a b c n g1 g2 g3] at h1
        exact h1
      have Hcv := Lib.hid hcv
      clear hcv
      have hx3 := u32_xor_nat _ _ (crcSum_lt (a.take n)) (crcSum_lt (b.take n))
      have hx4 := u32_xor_nat _ _ (xor_lt32 (crcSum_lt (a.take n)) (crcSum_lt (b.take n))) (crcSum_lt (c.take n))
      rw [← crcSum_xor3 (a.take n) (b.take n) (c.take n) (by simp; omega) (by simp; omega), show List.zipWith (· ^^^ ·) (List.zipWith (· ^^^ ·) (a.take n) (b.take n)) (c.take n) = xor3 a b c n from rfl] at hx4
      generalize crcSum (a.take n) ^^^ crcSum (b.take n) = m1 at hx3 hx4
      have s1 := xor3_len a b c n g1 g2 g3
      have Hs1 := Lib.hid s1
      clear s1
      repeat (
        refine wpQuiet_step (fun K hK => ?_)
        go_simp
        first
          | (refine hK _ ?_; clear hK K)
          | (refine ⟨_, fun _ _ => rfl, hK _ ?_⟩; clear hK K)
          | (apply Exists.intro; refine ⟨fun W hW => ?_, hK _ ?_⟩; (rw [Hcv.out W hW]; exact And.intro rfl rfl); clear hK K)
          | (apply Exists.intro; refine ⟨fun W hW => quiet_below hW (sum_any _ W ?_), hK _ ?_⟩; (first | (rw [Hs1.out]; omega) | (rw [List.length_take]; omega)); clear hK K))
      refine wpQuiet_nil ?_
      intro w5 hw5
      go_wp2_with fail
      go_ret
      have hb15 := hb1.trans (hbr.mono hb1.size)
      exact ⟨rfl, hb15.trans (hw5.mono hb15.size)⟩
end Go.Proofs.Ytdeaednccdoklaa

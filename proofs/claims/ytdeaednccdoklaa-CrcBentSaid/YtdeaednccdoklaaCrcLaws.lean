import Derived.Test.YtdeaednccdoklaaCrcSeal
namespace Go.Proofs.Ytdeaednccdoklaa
open Go.RowKit
theorem crc_known : crcSum [49, 50, 51, 52, 53, 54, 55, 56, 57] = 3421780262 := by decide +kernel
theorem seal_known : crcSeal [] = [0, 0, 0, 0] := by decide +kernel
theorem summed_any (w : World) : Calls Try.prog 9 #[] w fun e w' => e = .returned (.bool true) ∧ Below w.heap.size w w' := by
  go_enter Try.func9, Try.ntmps9
  go_wp2_with fail
  refine (sum_any [49, 50, 51, 52, 53, 54, 55, 56, 57] _ (by decide)).mono ?_
  rintro e w1 ⟨rfl, hb1⟩
  rw [crc_known]
  go_wp2_with fail
  refine (seal_any [] _ (by decide)).mono ?_
  rintro e w2 ⟨rfl, hb2⟩
  rw [seal_known]
  go_wp2_with fail
  go_ret
  exact ⟨rfl, hb1.trans (hb2.mono hb1.size)⟩
theorem open_seal (s : List UInt8) (w : World) (h2 : s.length ≤ 300) :
    Calls Try.prog 12 #[.string ⟨(crcSeal s).toArray⟩] w fun e w' => e = .returned (.tuple #[.string ⟨s.toArray⟩, .nilIface]) ∧ Below w.heap.size w w' := by
  have ht : (crcSeal s).take ((crcSeal s).length - 4) = s := by
    rw [crcSeal_len]; unfold crcSeal; simp
  have := open_good (crcSeal s) w (by rw [crcSeal_len]; omega) (by rw [crcSeal_len]; omega) (by rw [ht]; simp)
  rw [ht] at this
  exact this
set_option maxHeartbeats 400000 in
theorem law_CrcBack (s : List UInt8) (hs : s.length ≤ 9223372036854775807) (w : World) :
    Calls Try.prog 5 #[.string ⟨s.toArray⟩] w fun e w' => e = .returned (.bool true) ∧ Below w.heap.size w w' := by
  by_cases h3 : s.length ≤ 300
  · go_enter Try.func5, Try.ntmps5
    go_wp2_with fail
    refine (summed_any _).mono ?_
    rintro e w1 ⟨rfl, hb1⟩
    go_wp2_with fail
    refine (seal_any s _ (by omega)).mono ?_
    rintro e w2 ⟨rfl, hb2⟩
    go_wp2_with fail
    refine (open_seal s _ (by omega)).mono ?_
    rintro e w3 ⟨rfl, hb3⟩
    have hb12 := hb1.trans (hb2.mono hb1.size)
    have hb13 := hb12.trans (hb3.mono hb12.size)
    clear hb1 hb2 hb3 hb12
    go_wp2_with fail
    by_cases h4 : s.length < 4
    · refine (open_short s _ h4).mono ?_
      rintro e w4 ⟨rfl, hb4⟩
      go_wp2_with fail
      go_ret
      exact ⟨rfl, hb13.trans (hb4.mono hb13.size)⟩
    · by_cases h5 : (crcSeal (s.take (s.length - 4)) == s) = true
      · refine (open_good s _ (by omega) (by omega) h5).mono ?_
        rintro e w4 ⟨rfl, hb4⟩
        go_wp2_with fail
        refine (seal_any (s.take (s.length - 4)) _ (by rw [List.length_take]; omega)).mono ?_
        rintro e w5 ⟨rfl, hb5⟩
        go_wp2_with fail
        go_ret
        have hb14 := hb13.trans (hb4.mono hb13.size)
        exact ⟨rfl, hb14.trans (hb5.mono hb14.size)⟩
      · refine (open_bad s _ (by omega) (by omega) (by simpa using h5)).mono ?_
        rintro e w4 ⟨rfl, hb4⟩
        go_wp2_with fail
        go_ret
        exact ⟨rfl, hb13.trans (hb4.mono hb13.size)⟩
  · go_enter Try.func5, Try.ntmps5
    go_wp2_with fail
    refine (summed_any _).mono ?_
    rintro e w1 ⟨rfl, hb1⟩
    go_wp2_with fail
    go_ret
    exact ⟨rfl, hb1⟩
set_option maxHeartbeats 400000 in
theorem law_CrcRest (s : List UInt8) (hs : s.length ≤ 9223372036854775807) (w : World) :
    Calls Try.prog 4 #[.string ⟨s.toArray⟩] w fun e w' => e = .returned (.bool true) ∧ Below w.heap.size w w' := by
  by_cases h3 : s.length ≤ 300
  · go_enter Try.func4, Try.ntmps4
    go_wp2_with fail
    refine (summed_any _).mono ?_
    rintro e w1 ⟨rfl, hb1⟩
    go_wp2_with fail
    refine (seal_any s _ (by omega)).mono ?_
    rintro e w2 ⟨rfl, hb2⟩
    go_wp2_with fail
    refine (sum_any (crcSeal s) _ (by rw [crcSeal_len]; omega)).mono ?_
    rintro e w3 ⟨rfl, hb3⟩
    rw [crcSum_seal]
    go_wp2_with fail
    go_ret
    have hb12 := hb1.trans (hb2.mono hb1.size)
    exact ⟨rfl, hb12.trans (hb3.mono hb12.size)⟩
  · go_enter Try.func4, Try.ntmps4
    go_wp2_with fail
    refine (summed_any _).mono ?_
    rintro e w1 ⟨rfl, hb1⟩
    go_wp2_with fail
    go_ret
    exact ⟨rfl, hb1⟩
end Go.Proofs.Ytdeaednccdoklaa

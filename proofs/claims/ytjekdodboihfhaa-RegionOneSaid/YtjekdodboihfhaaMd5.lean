/- md5's own facts; the laws Md5Keys, Md5Long. (Printed by tools/mkmd5.py.) -/
import Derived.Test.YtjekdodboihfhaaMd4
import Derived.Test.YtjekdodboihfhaaShelf
set_option linter.all false
namespace Go.Proofs.Ytjekdodboihfhaa
open Go.RowKit
theorem abc_e (w : World) : Calls Try.prog 13 #[.string ⟨#[97, 98, 99]⟩] w fun e w' => e = .returned (.string ⟨#[144, 1, 80, 152, 60, 210, 79, 176, 214, 150, 63, 125, 40, 225, 127, 114]⟩) ∧ Below w.heap.size w w' := by
  have h := sum_any [97, 98, 99] (by decide) w
  rw [md_abc] at h
  exact h
theorem jefe_e (w : World) : Calls Try.prog 12 #[.string ⟨#[74, 101, 102, 101]⟩, .string ⟨#[119, 104, 97, 116, 32, 100, 111, 32, 121, 97, 32, 119, 97, 110, 116, 32, 102, 111, 114, 32, 110, 111, 116, 104, 105, 110, 103, 63]⟩] w fun e w' => e = .returned (.string ⟨#[117, 12, 120, 62, 106, 176, 181, 3, 234, 168, 110, 49, 10, 93, 183, 56]⟩) ∧ Below w.heap.size w w' := by
  have h := hmac_any [74, 101, 102, 101] [119, 104, 97, 116, 32, 100, 111, 32, 121, 97, 32, 119, 97, 110, 116, 32, 102, 111, 114, 32, 110, 111, 116, 104, 105, 110, 103, 63] (by decide) (by decide) w
  rw [md_jefe] at h
  exact h
set_option maxRecDepth 100000 in
set_option maxHeartbeats 2000000 in
theorem marked_any (w : World) : Calls Try.prog 11 #[] w fun e w' => e = .returned (.bool true) ∧ Below w.heap.size w w' := by
  have H1 := Lib.hid (St.init w)
  have Ha := Lib.hid (abc_e w)
  go_enter Try.func11, Try.ntmps11
  go_wp2_with (first
    | ((with_reducible refine Ha.out.mono ?_)
       rintro e w2 ⟨rfl, hb2⟩
       have H2 := Lib.hid (H1.out.ext hb2)
       clear hb2 Ha H1
       have Hj := Lib.hid (jefe_e w2))
    | ((with_reducible refine Hj.out.mono ?_)
       rintro e w3 ⟨rfl, hb3⟩
       have H3 := Lib.hid (H2.out.ext hb3)
       clear hb3 Hj H2))
  go_ret
  exact ⟨rfl, H3.out.below⟩
theorem bytes_beq (l : List UInt8) : ((⟨l.toArray⟩ : ByteArray) == ⟨l.toArray⟩) = true := by
  first
    | simp
    | (show decide _ = true; simp)
    | (show (l.toArray == l.toArray) = true; simp)
    | (unfold BEq.beq; simp [instBEqOfDecidableEq])
set_option maxRecDepth 100000 in
set_option maxHeartbeats 2000000 in
theorem law_Md5Keys (key s : List UInt8) (hk47 : key.length ≤ 140737488355328) (hs47 : s.length ≤ 140737488355328) (w : World) :
    Calls Try.prog 3 #[.string ⟨key.toArray⟩, .string ⟨s.toArray⟩] w fun e w' => e = .returned (.bool true) ∧ Below w.heap.size w w' := by
  have H1 := Lib.hid (St.init w)
  have Hm := Lib.hid (marked_any w)
  go_enter Try.func3, Try.ntmps3
  by_cases h5 : 500 < key.length + s.length
  · have h5i : (500 : Int) < (key.length : Int) + (s.length : Int) := by omega
    go_wp2_with (first
      | ((with_reducible refine Hm.out.mono ?_)
         rintro e w2 ⟨rfl, hb2⟩
         have H2 := Lib.hid (H1.out.ext hb2)
         clear hb2 Hm H1))
    go_ret
    exact ⟨rfl, H2.out.below⟩
  · have h5i : ¬ (500 : Int) < (key.length : Int) + (s.length : Int) := by omega
    have Hkl : Hid (key.length ≤ 500 ∧ s.length ≤ 500) := Lib.hid (by omega)
    clear h5
    by_cases h64 : 64 < key.length
    · have h6 : (64 : Int) < (key.length : Int) := by omega
      have Hk1 : Hid (∀ W, Calls Try.prog 12 #[.string ⟨key.toArray⟩, .string ⟨s.toArray⟩] W fun e w' => e = .returned (.string ⟨(hmacM key s).toArray⟩) ∧ Below W.heap.size W w') := Lib.hid (hmac_any key s (by have := Hkl.out; omega) (by have := Hkl.out; omega))
      have Hk2 : Hid (∀ W, Calls Try.prog 13 #[.string ⟨key.toArray⟩] W fun e w' => e = .returned (.string ⟨(sumM key).toArray⟩) ∧ Below W.heap.size W w') := Lib.hid (sum_any key (by have := Hkl.out; omega))
      have Hk3 : Hid (∀ W, Calls Try.prog 12 #[.string ⟨(sumM key).toArray⟩, .string ⟨s.toArray⟩] W fun e w' => e = .returned (.string ⟨(hmacM (sumM key) s).toArray⟩) ∧ Below W.heap.size W w') := Lib.hid (hmac_any (sumM key) s (by rw [sumM_len]; decide) (by have := Hkl.out; omega))
      rw [← hmac_long s h64] at Hk3
      generalize sumM key = k2 at *
      obtain ⟨R, hR⟩ : ∃ R, hmacM key s = R := ⟨_, rfl⟩
      rw [hR] at Hk1 Hk3
      have hbq := bytes_beq R
      clear hR
      go_wp2_with (first
        | ((with_reducible refine Hm.out.mono ?_)
           rintro e w2 ⟨rfl, hb2⟩
           have H2 := Lib.hid (H1.out.ext hb2)
           clear hb2 Hm H1)
        | ((with_reducible refine (Hk1.out _).mono ?_)
           rintro e w3 ⟨rfl, hb3⟩
           have H3 := Lib.hid (H2.out.ext hb3)
           clear hb3 H2)
        | ((with_reducible refine (Hk2.out _).mono ?_)
           rintro e w4 ⟨rfl, hb4⟩
           have H4 := Lib.hid (H3.out.ext hb4)
           clear hb4 H3)
        | ((with_reducible refine (Hk3.out _).mono ?_)
           rintro e w5 ⟨rfl, hb5⟩
           have H5 := Lib.hid (H4.out.ext hb5)
           clear hb5 H4))
      go_ret
      exact ⟨rfl, H5.out.below⟩
    · have h6 : ¬ (64 : Int) < (key.length : Int) := by omega
      by_cases he : key.length = 64
      · have hei : (key.length : Int) = 64 := by omega
        clear h64 h6
        have h6 : ¬ (64 : Int) < (key.length : Int) := by omega
        go_wp2_with (first
          | ((with_reducible refine Hm.out.mono ?_)
             rintro e w2 ⟨rfl, hb2⟩
             have H2 := Lib.hid (H1.out.ext hb2)
             clear hb2 Hm H1))
        go_ret
        exact ⟨rfl, H2.out.below⟩
      · have hei : ((key.length : Int) == 64) = false := by simp; omega
        have hei2 : ¬ (key.length : Int) = 64 := by omega
        have hadd : (⟨key.toArray⟩ ++ ⟨#[0]⟩ : ByteArray) = ⟨(key ++ [0]).toArray⟩ := by
          apply ByteArray.ext
          simp
        have hsz : ¬ 9223372036854775807 < key.length + 1 := by omega
        have Hk1 : Hid (∀ W, Calls Try.prog 12 #[.string ⟨key.toArray⟩, .string ⟨s.toArray⟩] W fun e w' => e = .returned (.string ⟨(hmacM key s).toArray⟩) ∧ Below W.heap.size W w') := Lib.hid (hmac_any key s (by have := Hkl.out; omega) (by have := Hkl.out; omega))
        have Hk3 : Hid (∀ W, Calls Try.prog 12 #[.string ⟨(key ++ [0]).toArray⟩, .string ⟨s.toArray⟩] W fun e w' => e = .returned (.string ⟨(hmacM (key ++ [0]) s).toArray⟩) ∧ Below W.heap.size W w') := Lib.hid (hmac_any (key ++ [0]) s (by have := Hkl.out; simp; omega) (by have := Hkl.out; omega))
        rw [← hmac_short s (by omega)] at Hk3
        obtain ⟨R, hR⟩ : ∃ R, hmacM key s = R := ⟨_, rfl⟩
        rw [hR] at Hk1 Hk3
        have hbq := bytes_beq R
        clear hR he
        go_wp2_with (first
          | ((with_reducible refine Hm.out.mono ?_)
             rintro e w2 ⟨rfl, hb2⟩
             have H2 := Lib.hid (H1.out.ext hb2)
             clear hb2 Hm H1)
          | ((with_reducible refine (Hk1.out _).mono ?_)
             rintro e w3 ⟨rfl, hb3⟩
             have H3 := Lib.hid (H2.out.ext hb3)
             clear hb3 H2)
          | ((with_reducible refine (Hk3.out _).mono ?_)
             rintro e w5 ⟨rfl, hb5⟩
             have H5 := Lib.hid (H3.out.ext hb5)
             clear hb5 H3))
        go_ret
        exact ⟨rfl, H5.out.below⟩
set_option maxRecDepth 100000 in
theorem clone_str (s : List UInt8) (hs : s.length ≤ 500) (w : World) :
    Calls Try.prog 14 #[.string ⟨s.toArray⟩] w fun e w' => e = .returned (.string ⟨s.toArray⟩) ∧ Below w.heap.size w w' := by
  have H1 := Lib.hid (St.init w)
  have Hc := Lib.hid (Try.stringslite_Clone ⟨s.toArray⟩ w (by show s.toArray.size ≤ _; simp; omega))
  go_enter Try.func14, Try.ntmps14
  go_wp2_with (first
    | ((with_reducible refine Hc.out.mono ?_)
       rintro e w2 ⟨rfl, hb2⟩
       have H2 := Lib.hid (H1.out.ext hb2)
       clear hb2 Hc H1))
  go_ret
  exact ⟨rfl, H2.out.below⟩
set_option maxRecDepth 100000 in
set_option maxHeartbeats 2000000 in
theorem law_Md5Long (s : List UInt8) (hs47 : s.length ≤ 140737488355328) (w : World) :
    Calls Try.prog 4 #[.string ⟨s.toArray⟩] w fun e w' => e = .returned (.bool true) ∧ Below w.heap.size w w' := by
  have H1 := Lib.hid (St.init w)
  have Hm := Lib.hid (marked_any w)
  go_enter Try.func4, Try.ntmps4
  by_cases h5 : 500 < s.length
  · have h5i : (500 : Int) < (s.length : Int) := by omega
    go_wp2_with (first
      | ((with_reducible refine Hm.out.mono ?_)
         rintro e w2 ⟨rfl, hb2⟩
         have H2 := Lib.hid (H1.out.ext hb2)
         clear hb2 Hm H1))
    go_ret
    exact ⟨rfl, H2.out.below⟩
  · have h5i : ¬ (500 : Int) < (s.length : Int) := by omega
    have hl1 := sumM_len s
    have hl2 := hmacM_len s s
    have Hk1 : Hid (∀ W, Calls Try.prog 12 #[.string ⟨s.toArray⟩, .string ⟨s.toArray⟩] W fun e w' => e = .returned (.string ⟨(hmacM s s).toArray⟩) ∧ Below W.heap.size W w') := Lib.hid (hmac_any s s (by omega) (by omega))
    have Hk2 : Hid (∀ W, Calls Try.prog 13 #[.string ⟨s.toArray⟩] W fun e w' => e = .returned (.string ⟨(sumM s).toArray⟩) ∧ Below W.heap.size W w') := Lib.hid (sum_any s (by omega))
    have Hk3 : Hid (∀ W, Calls Try.prog 14 #[.string ⟨s.toArray⟩] W fun e w' => e = .returned (.string ⟨s.toArray⟩) ∧ Below W.heap.size W w') := Lib.hid (clone_str s (by omega))
    generalize sumM s = S at *
    generalize hmacM s s = R at *
    have hbq := bytes_beq S
    have hl1i : (S.length : Int) = 16 := by omega
    have hl2i : (R.length : Int) = 16 := by omega
    clear h5
    go_wp2_with (first
      | ((with_reducible refine Hm.out.mono ?_)
         rintro e w2 ⟨rfl, hb2⟩
         have H2 := Lib.hid (H1.out.ext hb2)
         clear hb2 Hm H1)
      | ((with_reducible refine (Hk2.out _).mono ?_)
         rintro e w3 ⟨rfl, hb3⟩
         have H2 := Lib.hid (H2.out.ext hb3)
         clear hb3)
      | ((with_reducible refine (Hk1.out _).mono ?_)
         rintro e w3 ⟨rfl, hb3⟩
         have H2 := Lib.hid (H2.out.ext hb3)
         clear hb3)
      | ((with_reducible refine (Hk3.out _).mono ?_)
         rintro e w3 ⟨rfl, hb3⟩
         have H2 := Lib.hid (H2.out.ext hb3)
         clear hb3))
    go_ret
    exact ⟨rfl, H2.out.below⟩
end Go.Proofs.Ytjekdodboihfhaa

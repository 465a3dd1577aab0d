/- wire.Reader: Num. -/
import Derived.Test.YtjekdodboihfhaaDoorReader2
import Derived.Test.YtjekdodboihfhaaDoorBytes
set_option linter.all false
namespace Go.Proofs.YtjekdodboihfhaaDoor
open Go.RowKit
theorem ofInt_i64 (a : Nat) (ha : a < 9223372036854775808) : (BitVec.ofInt 64 (a : Int)).toNat = a := by
  rw [BitVec.ofInt_natCast, BitVec.toNat_ofNat]; exact Nat.mod_eq_of_lt (by omega)
theorem i64_or_nat (a b : Nat) (ha : a < 9223372036854775808) (hb : b < 9223372036854775808) : bits .or .i64 (a : Int) (b : Int) = ((a ||| b : Nat) : Int) := by
  have hx : a ||| b < 2 ^ 63 := Nat.or_lt_two_pow (by omega) (by omega)
  show IntKind.i64.wrap ((BitVec.ofInt 64 (a : Int) ||| BitVec.ofInt 64 (b : Int)).toNat : Int) = _
  rw [BitVec.toNat_or, ofInt_i64 a ha, ofInt_i64 b hb, IntKind.wrap_i64]
  omega
theorem or_byte (x : Nat) (c : UInt8) (hx : x < 36028797018963968) : bits .or .i64 ((x : Int) * 256) (c.toNat : Int) = ((256 * x + c.toNat : Nat) : Int) := by
  have h := i64_or_nat (x * 256) c.toNat (by omega) (by have := c.toNat_lt; omega)
  rw [nat_join 8 (x * 256) c.toNat (by omega) c.toNat_lt] at h
  rw [show ((x * 256 : Nat) : Int) = (x : Int) * 256 by omega] at h
  rw [h]; omega
theorem num_had {w : World} {b : Nat} {s : List UInt8} {at_ off : Nat} {t : TypeId} {x : Value} (h : Rd w b s at_ off (.iface t x)) (n : Int) :
    Calls Tryd.prog 24 #[.pointer (some ⟨b, 0, none⟩), .int .i64 n] w fun e w' => e = .returned (.int .i64 0) ∧ Below w.heap.size w w' := by
  have Hr := Lib.hid h
  obtain ⟨c0, c1, c2, c3, z1, z3, hlt⟩ := h
  go_enter Tryd.func24, Tryd.ntmps24
  go_wp2_with fail
  refine (bytes_had Hr.out _).mono ?_
  rintro e w1 ⟨rfl, hb1⟩
  obtain ⟨cap, w2, hcap, hcv, hb2, hz2, hx2⟩ := conv_bytesL (P := Tryd.prog) w1 9 48 5 [] Tryd.underlying9 Tryd.underlying48 Tryd.underlying5
  simp only [List.length_nil] at hcv
  clear hx2
  go_wp2_with fail
  refine wp_loop_once ?_
  go_wp2_with fail
  go_ret
  exact ⟨rfl, hb1.trans (hb2.mono hb1.size)⟩
set_option maxRecDepth 100000 in
set_option maxHeartbeats 400000 in
theorem num_ok {w : World} {b : Nat} {s : List UInt8} {at_ off : Nat} (h : Rd w b s at_ off .nilIface) (n : Nat) (h1 : 1 ≤ n) (h7 : n ≤ 7) (hn : at_ + n ≤ s.length) (hs : s.length ≤ 9223372036854775807) :
    Calls Tryd.prog 24 #[.pointer (some ⟨b, 0, none⟩), .int .i64 (n : Int)] w fun e w' => e = .returned (.int .i64 (beNum ((s.drop at_).take n) : Nat)) ∧ Rd w' b s (at_ + n) off .nilIface ∧ Upd b w w' := by
  have Hr := Lib.hid h
  obtain ⟨c0, c1, c2, c3, z1, z3, hlt⟩ := h
  go_enter Tryd.func24, Tryd.ntmps24
  go_wp2_with fail
  refine (bytes_ok Hr.out n hn hs).mono ?_
  rintro e w1 ⟨rfl, hr1, hu1⟩
  have Hr1 := Lib.hid hr1
  have hlen : ((s.drop at_).take n).length = n := by rw [List.length_take, List.length_drop]; omega
  generalize hLd : (s.drop at_).take n = L at hlen
  have HLd := Lib.hid hLd
  clear hLd
  obtain ⟨cap, w2, hcap, hcv, hb2, hz2, hx2⟩ := conv_bytesL (P := Tryd.prog) w1 9 48 5 L Tryd.underlying9 Tryd.underlying48 Tryd.underlying5
  have Hx2 := Lib.hid hx2
  rw [hlen] at hcv
  have HL := Lib.hid hlen
  clear hx2 hr1 c0 c1 c2 c3 z1 z3 hcap hlen
  go_wp2_with fail
  go_loop [5, 30] (fun x i => ∃ (k m : Nat), k ≤ n ∧ i = .int .i64 k ∧ x = .int .i64 m ∧ Hid (m = beNum (L.take k))) (fun _ i => n - (intOf i).toNat)
  case atStart => exact ⟨0, 0, by omega, rfl, rfl, rfl⟩
  case round =>
    obtain ⟨k, m, hk, rfl, rfl, Hm⟩ := hrel
    by_cases hlt : k < n
    · have hkl : k < L.length := by rw [HL.out]; exact hlt
      have hm7 : m < 256 ^ 6 := by
        rw [Hm.out]
        refine Nat.lt_of_lt_of_le (beNum_lt _) (Nat.pow_le_pow_right (by decide) ?_)
        rw [List.length_take]; omega
      have hor := or_byte m L[k] (Nat.lt_trans hm7 (by decide))
      have hsn : beNum (L.take (k + 1)) = 256 * m + L[k].toNat := by rw [takeL_snoc L k hkl, beNum_snoc, ← Hm.out]
      obtain ⟨hcell, hfr⟩ := Hx2.out k hkl
      have hc256 : (L[k].toNat : Int) < 256 := by have := L[k].toNat_lt; omega
      have Hsn := Lib.hid hsn
      have hm8 : (m : Int) < 281474976710656 := by omega
      generalize L[k] = c at hor hcell hc256 Hsn
      clear hsn hkl
      generalize hq : 256 * m + c.toNat = q at hor Hsn
      clear hq
      go_wp2_with fail
      go_round
      case rel => exact ⟨k + 1, q, by omega, by go_num, rfl, Hsn.out.symm⟩
      case measure => simp [intOf]; omega
    · go_wp2_with fail
      go_ret
      have hkn : k = n := by omega
      refine ⟨ret_int ?_, Hr1.out.keep hb2, hu1.trans (Upd.of_below hb2 b)⟩
      rw [Hm.out, List.take_of_length_le (by rw [HL.out]; omega), HLd.out]
/-- Num where nothing was wrong, and too little is left. -/
theorem num_short {w : World} {b : Nat} {s : List UInt8} {at_ off : Nat} (h : Rd w b s at_ off .nilIface) (n : Nat) (h1 : 1 ≤ n) (h8 : n ≤ 8) (ha : at_ ≤ s.length) (hn : s.length < at_ + n) (hs : off + s.length ≤ 9223372036854775807) :
    Calls Tryd.prog 24 #[.pointer (some ⟨b, 0, none⟩), .int .i64 (n : Int)] w fun e w' => e = .returned (.int .i64 0) ∧ Upd b w w' ∧ SomeErr w' b s at_ off 7 ((off + at_ : Nat) : Int) := by
  have Hr := Lib.hid h
  obtain ⟨c0, c1, c2, c3, z1, z3, hlt⟩ := h
  go_enter Tryd.func24, Tryd.ntmps24
  go_wp2_with fail
  refine (bytes_fail Hr.out n ha (by omega) hs).mono ?_
  rintro e w1 ⟨rfl, hu1, he1⟩
  rw [if_neg (by omega)] at he1
  have He1 := Lib.hid he1
  clear he1
  obtain ⟨cap, w2, hcap, hcv, hb2, hz2, hx2⟩ := conv_bytesL (P := Tryd.prog) w1 9 48 5 [] Tryd.underlying9 Tryd.underlying48 Tryd.underlying5
  simp only [List.length_nil] at hcv
  clear hx2
  go_wp2_with fail
  refine wp_loop_once ?_
  go_wp2_with fail
  go_ret
  exact ⟨rfl, hu1.trans (Upd.of_below hb2 b), He1.out.keep hb2⟩
end Go.Proofs.YtjekdodboihfhaaDoor

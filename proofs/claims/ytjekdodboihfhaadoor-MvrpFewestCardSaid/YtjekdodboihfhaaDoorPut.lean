/- wire.Put, wire.Must. -/
import Derived.Test.YtjekdodboihfhaaDoorRows
import Derived.Test.YtjekdodboihfhaaDoorKit
import Derived.Test.YtjekdodboihfhaaDoorBytes
set_option linter.all false
namespace Go.Proofs.YtjekdodboihfhaaDoor
open Go.RowKit
theorem info_u8 : (Tryd.prog.info? 5).map (fun i => (i.zero, i.size, i.bytes)) = some (some (.int .u8 0), 1, 1) := by kernel_rfl
theorem put_range (x : Nat) (n : Int) (hn : n < 1 ∨ 8 < n) (w : World) :
    Calls Tryd.prog 38 #[.int .u64 (x : Int), .int .i64 n] w fun e w' => e = .returned (.tuple #[.string ⟨#[]⟩, .iface 32 (.int .i64 2)]) ∧ Below w.heap.size w w' := by
  rcases hn with hn | hn
  all_goals
    go_enter Tryd.func38, Tryd.ntmps38
    go_wp2_with fail
    go_ret2
    exact ⟨rfl, Below.refl _ _⟩
theorem put_full (x n : Nat) (h1 : 1 ≤ n) (h8 : n < 8) (hx : x / 2 ^ (8 * n) ≠ 0) (w : World) :
    Calls Tryd.prog 38 #[.int .u64 (x : Int), .int .i64 (n : Int)] w fun e w' => e = .returned (.tuple #[.string ⟨#[]⟩, .iface 32 (.int .i64 12)]) ∧ Below w.heap.size w w' := by
  have hne : (((x : Int) / 2 ^ (8 * n)) != 0) = true := by
    rw [bne_iff_ne]
    intro h
    apply hx
    have : ((x / 2 ^ (8 * n) : Nat) : Int) = 0 := by simpa using h
    omega
  go_enter Tryd.func38, Tryd.ntmps38
  go_wp2_with fail
  go_ret2
  exact ⟨rfl, Below.refl _ _⟩
set_option maxRecDepth 100000 in
set_option maxHeartbeats 400000 in
theorem put_ok (x n : Nat) (hx64 : x < 18446744073709551616) (h1 : 1 ≤ n) (h8 : n ≤ 8) (hx : x < 256 ^ n) (w : World) :
    Calls Tryd.prog 38 #[.int .u64 (x : Int), .int .i64 (n : Int)] w fun e w' => e = .returned (.tuple #[.string ⟨(beBytes x n).toArray⟩, .nilIface]) ∧ Below w.heap.size w w' := by
  obtain ⟨w2, hmk, hb2, hz2, hx2⟩ := make_bytes (P := Tryd.prog) 48 5 Tryd.underlying48 info_u8 .i64 .i64 n (by omega) w
  have Hx2 := Lib.hid hx2
  have hne : n < 8 → (((x : Int) / 2 ^ (8 * n)) != 0) = false := by
    intro _
    have h0 : x / 2 ^ (8 * n) = 0 := by
      rw [Nat.pow_mul]
      exact Nat.div_eq_of_lt hx
    have : ((x / 2 ^ (8 * n) : Nat) : Int) = 0 := by omega
    simpa using this
  have Hx := Lib.hid hx
  clear hx2 hx
  have hcase : n = 8 ∨ n < 8 := by omega
  have main : Calls Tryd.prog 38 #[.int .u64 (x : Int), .int .i64 (n : Int)] w fun e w' => e = .returned (.tuple #[.string ⟨(beBytes x n).toArray⟩, .nilIface]) ∧ Below w.heap.size w w' := by
    by_cases hn8 : n < 8
    all_goals
      first | have hne' := hne hn8 | skip
      have Hne := Lib.hid hne
      clear hne
      go_enter Tryd.func38, Tryd.ntmps38
      go_wp2_with fail
      go_loopw [29] (fun i wr => ∃ (k : Nat) (L : List UInt8), k ≤ n ∧ i = .int .i64 k ∧ Hid (L.length = n) ∧ Hid (L.drop (n - k) = (beBytes x n).drop (n - k)) ∧ Hid (BytesAt wr w.heap.size L) ∧ Below w.heap.size w wr) (fun i _ => n - (intOf i).toNat)
      case atStart => exact ⟨0, List.replicate n 0, by omega, rfl, by simp [Hid], by simp [Hid, beBytes_len], Hx2, hb2⟩
      case round =>
        obtain ⟨k, L, hk, rfl, HL, HT, HX, hbr⟩ := hrel
        by_cases hlt : k < n
        · have hst := beBytes_step x n k L HL.out hlt HT.out
          have hv : ((x : Int) / 2 ^ (8 * k) % 256) = ((UInt8.ofNat (x / 2 ^ (8 * k) % 256)).toNat : Int) := by
            rw [UInt8.toNat_ofNat']; simp
          generalize UInt8.ofNat (x / 2 ^ (8 * k) % 256) = r at hv hst
          have Hst := Lib.hid hst
          obtain ⟨hcell, hfr⟩ := HX.out (n - 1 - k) (by rw [HL.out]; omega)
          generalize L[n - 1 - k]'(by rw [HL.out]; omega) = c at hcell
          clear hst
          go_wp2_with fail
          go_roundw
          case rel => exact ⟨k + 1, L.set (n - 1 - k) r, by omega, by go_num, by simp [Hid, HL.out], Hst, BytesAt.set HX.out _ _, hbr.setCell (Nat.le_refl _) _⟩
          case measure => simp [intOf]; omega
        · have hkn : k = n := by omega
          have hL : L = beBytes x n := by
            have := HT.out
            rw [hkn, Nat.sub_self] at this
            simpa using this
          have hcv := conv_row (P := Tryd.prog) HX.out 48 9 5 n Tryd.underlying48 Tryd.underlying5 Tryd.underlying9
          rw [HL.out, hL] at hcv
          have Hk := Lib.hid hkn
          clear hkn hL
          go_wp2_with fail
          go_ret2
          exact ⟨rfl, hbr⟩
  exact main
end Go.Proofs.YtjekdodboihfhaaDoor

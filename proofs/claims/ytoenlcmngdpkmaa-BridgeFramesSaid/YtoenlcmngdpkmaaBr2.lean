/- slices.Contains at ints; VIDs; tags. -/
import Derived.Test.YtoenlcmngdpkmaaBr1
namespace Go.Proofs.Ytoenlcmngdpkmaa
open Go.RowKit
theorem intv_len (l : List Int) : (intv l).length = l.length := by simp [intv]
theorem intv_cell {w W : World} {B g o : Nat} {l : List Int} (hr : ∀ (k : Nat) (hk : k < (intv l).length), w.rangeAt g (o + k * 1) (intv l)[k]) (hb : Below B w W) (hg : g < B) {k : Nat} (hk : k < l.length) : W.cell? ⟨g, o + k, none⟩ = some (.int .i64 l[k]) := by
  have h1 := hr k (by rw [intv_len]; exact hk)
  have h2 := rangeAt_below h1 hb hg
  have h3 := h2 0 (.int .i64 l[k]) (by simp [intv])
  simpa using h3
theorem idx_has (v : Int) (l : List Int) : decide (0 ≤ idxP (fun x => decide (v = x)) l) = decide (v ∈ l) := by
  rw [idxP_any, Bool.eq_iff_iff]
  simp
set_option maxRecDepth 100000 in
set_option maxHeartbeats 1000000 in
theorem index_int (l : List Int) (v : Int) (n : Nat) (hlen : l.length = n) (A : Option Addr) (cap : Nat) (w : World) (hn : n ≤ 9223372036854775807) (hr : SlRow w w.heap.size 1 A (intv l)) :
    Calls Try.prog 58 #[.slice A n cap, .int .i64 v] w fun e w' => e = .returned (.int .i64 (idxP (fun x => decide (v = x)) l)) ∧ Below w.heap.size w w' := by
  have Hr := Lib.hid hr
  have Hlen := Lib.hid hlen
  clear hr hlen
  go_enter Try.func58, Try.ntmps58
  go_wp2_with fail
  go_loopw [5, 8] (fun _ i wr => ∃ k : Nat, k ≤ n ∧ i = .int .i64 k ∧ Hid (∀ j (hj : j < l.length), j < k → decide (v = l[j]) = false) ∧ Hid (Below w.heap.size w wr)) (fun _ i _ => n - (intOf i).toNat)
  case atStart => exact ⟨0, by omega, rfl, Lib.hid (fun j hj h => absurd h (by omega)), Lib.hid (Below.refl _ _)⟩
  case round =>
    obtain ⟨k, hk, rfl, Hz, Hb⟩ := hrel
    by_cases hlt : k < n
    · have hkx : k < l.length := by rw [Hlen.out]; exact hlt
      obtain ⟨g, o, rfl, hg, hc⟩ := Hr.out (by rw [intv_len]; omega)
      have hcell := intv_cell hc Hb.out hg hkx
      have hlg : g < wr.heap.size := Nat.lt_of_lt_of_le hg Hb.out.size
      clear hc
      by_cases hv : v = l[k]
      · have hz : idxP (fun x => decide (v = x)) l = k := idxP_found _ l k hkx (decide_eq_true hv) (fun j hj => Hz.out j (by omega) hj)
        rw [← hv] at hcell
        have HZ := Lib.hid hz
        clear hz hv
        go_wp2_with fail
        go_ret
        exact ⟨ret_int HZ.out.symm, Hb.out⟩
      · have hvf : (v == l[k]) = false := beq_eq_false_iff_ne.2 hv
        have HV : Hid (∀ j (hj : j < l.length), j < k + 1 → decide (v = l[j]) = false) := Lib.hid (fun j hj h => by
          by_cases e : j = k
          · subst e; exact decide_eq_false hv
          · exact Hz.out j hj (by omega))
        clear hv Hz
        generalize l[k] = x at *
        go_wp2_with fail
        go_roundw
        case rel => exact ⟨k + 1, by omega, by go_num, HV, Hb⟩
        case measure => simp [intOf]; omega
    · have hz : idxP (fun x => decide (v = x)) l = -1 := idxP_none _ l (fun j hj => Hz.out j hj (by have := Hlen.out; omega))
      have HZ := Lib.hid hz
      clear hz
      go_wp2_with fail
      go_ret
      exact ⟨ret_int HZ.out.symm, Hb.out⟩
set_option maxRecDepth 100000 in
theorem has_int (l : List Int) (v : Int) (sv : Value) (w : World) (hn : l.length ≤ 9223372036854775807) (hs : SlAt w 1 sv (intv l)) :
    Calls Try.prog 34 #[sv, .int .i64 v] w fun e w' => e = .returned (.bool (decide (v ∈ l))) ∧ Below w.heap.size w w' := by
  obtain ⟨A, cap, rfl, hc, hr⟩ := hs.row
  rw [intv_len] at *
  have H := Lib.hid (index_int l v l.length rfl A cap w hn hr)
  have Ha := Lib.hid (idx_has v l)
  clear hr hs
  generalize idxP _ _ = r at *
  generalize l.length = n at *
  go_enter Try.func34, Try.ntmps34
  go_wp2_with (first
    | ((with_reducible refine H.out.mono ?_)
       rintro e w1 ⟨rfl, hb1⟩
       skip)
    )
  go_ret
  exact ⟨by rw [← Ha.out]; rfl, hb1⟩
end Go.Proofs.Ytoenlcmngdpkmaa

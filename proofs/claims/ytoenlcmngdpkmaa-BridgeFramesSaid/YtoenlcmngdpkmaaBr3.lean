/- VIDs that rise; ports that may be set so. -/
import Derived.Test.YtoenlcmngdpkmaaBr2
namespace Go.Proofs.Ytoenlcmngdpkmaa
open Go.RowKit
theorem vidAt_true {l : List Int} {k : Nat} (hk : k < l.length) (h1 : 1 ≤ l[k]) (h2 : l[k] ≤ 4094) (h3 : ∀ (h : 0 < k), l[k - 1]'(by omega) < l[k]) : vidAt l k = true := by
  unfold vidAt
  simp only [List.getD_eq_getElem?_getD, List.getElem?_eq_getElem hk, Option.getD_some, Bool.and_eq_true, Bool.or_eq_true, decide_eq_true_eq]
  refine ⟨h1, h2, ?_⟩
  by_cases h0 : k = 0
  · exact .inl h0
  · right
    rw [List.getElem?_eq_getElem (by omega), Option.getD_some]
    exact h3 (by omega)
theorem vidAt_false {l : List Int} {k : Nat} (hk : k < l.length) (h : l[k] < 1 ∨ 4094 < l[k] ∨ ∃ (h : 0 < k), l[k] ≤ l[k - 1]'(by omega)) : vidsM l = false := by
  have h0 : vidAt l k = false := by
    unfold vidAt
    rw [Bool.eq_false_iff]
    simp only [ne_eq, List.getD_eq_getElem?_getD, List.getElem?_eq_getElem hk, Option.getD_some, Bool.and_eq_true, Bool.or_eq_true, decide_eq_true_eq]
    rintro ⟨h1, h2, h3⟩
    rcases h with h | h | ⟨hp, h⟩
    · omega
    · omega
    · rcases h3 with h3 | h3
      · omega
      · rw [List.getElem?_eq_getElem (by omega), Option.getD_some] at h3
        omega
  unfold vidsM
  rw [List.all_eq_false]
  exact ⟨k, List.mem_range.2 hk, by rw [h0]; simp⟩
theorem vids_true {l : List Int} (h : ∀ j, j < l.length → vidAt l j = true) : vidsM l = true := by
  unfold vidsM
  rw [List.all_eq_true]
  exact fun j hj => h j (List.mem_range.1 hj)
set_option maxRecDepth 100000 in
set_option maxHeartbeats 2000000 in
theorem vids_any (l : List Int) (sv : Value) (w : World) (hn : l.length ≤ 9223372036854775807) (hs : SlAt w 1 sv (intv l)) :
    Calls Try.prog 53 #[sv] w fun e w' => e = .returned (.bool (vidsM l)) ∧ Below w.heap.size w w' := by
  obtain ⟨A, cap, rfl, hc, hr⟩ := hs.row
  rw [intv_len] at *
  obtain ⟨n, hlen⟩ : ∃ n, l.length = n := ⟨_, rfl⟩
  rw [hlen] at hn hc ⊢
  have Hr := Lib.hid hr
  have Hlen := Lib.hid hlen
  clear hr hlen hs hc
  go_enter Try.func53, Try.ntmps53
  go_wp2_with fail
  go_loopw [3, 4, 7] (fun _ _ i wr => ∃ k : Nat, k ≤ n ∧ i = .int .i64 k ∧ Hid (∀ j, j < k → vidAt l j = true) ∧ Hid (Below w.heap.size w wr)) (fun _ _ i _ => n - (intOf i).toNat)
  case atStart => exact ⟨0, by omega, rfl, Lib.hid (fun j h => absurd h (by omega)), Lib.hid (Below.refl _ _)⟩
  case round =>
    obtain ⟨k, hk, rfl, Hz, Hb⟩ := hrel
    by_cases hlt : k < n
    · have hkx : k < l.length := by rw [Hlen.out]; exact hlt
      obtain ⟨g, o, rfl, hg, hc⟩ := Hr.out (by rw [intv_len]; omega)
      have hcell := intv_cell hc Hb.out hg hkx
      have hlg : g < wr.heap.size := Nat.lt_of_lt_of_le hg Hb.out.size
      by_cases h1 : l[k] < 1
      · have Hf := Lib.hid (vidAt_false hkx (.inl h1))
        clear hc
        generalize l[k] = x at *
        go_wp2_with fail
        go_ret
        exact ⟨by rw [Hf.out]; rfl, Hb.out⟩
      by_cases h2 : 4094 < l[k]
      · have Hf := Lib.hid (vidAt_false hkx (.inr (.inl h2)))
        clear hc
        generalize l[k] = x at *
        go_wp2_with fail
        go_ret
        exact ⟨by rw [Hf.out]; rfl, Hb.out⟩
      rcases Nat.eq_zero_or_pos k with h0 | h0
      · have Ht := Lib.hid (vidAt_true hkx (by omega) (by omega) (fun h => absurd h (by omega)))
        subst h0
        have hcell : wr.cell? ⟨g, o, none⟩ = some (.int .i64 l[0]) := hcell
        clear hc
        generalize l[0] = x at *
        go_wp2_with fail
        go_roundw
        case rel => exact ⟨1, by omega, by go_num, Lib.hid (fun j h => by
          obtain rfl : j = 0 := by omega
          exact Ht.out), Hb⟩
        case measure => simp [intOf]; omega
      · have hp := intv_cell hc Hb.out hg (k := k - 1) (by omega)
        obtain ⟨m, rfl⟩ : ∃ m, k = m + 1 := ⟨k - 1, by omega⟩
        have hp' : wr.cell? ⟨g, o + m, none⟩ = some (.int .i64 (l[m]'(by omega))) := hp
        have hw : ((m + 1 : Nat) : Int) - 1 = (m : Int) := by omega
        have hw2 : (m : Int) + 1 - 1 = (m : Int) := by omega
        clear hp hc
        by_cases h3 : l[m + 1] ≤ l[m]'(by omega)
        · have Hf := Lib.hid (vidAt_false hkx (.inr (.inr ⟨h0, h3⟩)))
          generalize l[m + 1] = x at *
          generalize l[m]'(by omega) = y at *
          go_wp2_with fail
          go_ret
          exact ⟨by rw [Hf.out]; rfl, Hb.out⟩
        · have h4 : l[m]'(by omega) < l[m + 1] := by omega
          have Ht := Lib.hid (vidAt_true hkx (by omega) (by omega) (fun h => h4))
          generalize l[m + 1] = x at *
          generalize l[m]'(by omega) = y at *
          go_wp2_with fail
          go_roundw
          case rel => exact ⟨m + 1 + 1, by omega, by go_num, Lib.hid (fun j h => by
            by_cases e : j = m + 1
            · subst e; exact Ht.out
            · exact Hz.out j (by omega)), Hb⟩
          case measure => simp [intOf]; omega
    · have Ht := Lib.hid (vids_true (l := l) (fun j hj => Hz.out j (by have := Hlen.out; omega)))
      go_wp2_with fail
      go_ret
      exact ⟨by rw [Ht.out]; rfl, Hb.out⟩
set_option maxRecDepth 100000 in
set_option maxHeartbeats 1000000 in
theorem idxf_int (p : Int → Bool) (l : List Int) (sv : Value) (f : Nat) (caps : Array Value) (w : World) (hn : l.length ≤ 9223372036854775807) (hs : SlAt w 1 sv (intv l))
    (hf : ∀ (args : Array Value) (W : World), (callFunc f args).run Try.prog W = .ok (.enter f args) W)
    (hp : ∀ (v : Int) (W : World), Below w.heap.size w W → Calls Try.prog f (#[.int .i64 v] ++ caps) W fun e w' => e = .returned (.bool (p v)) ∧ Below W.heap.size W w') :
    Calls Try.prog 66 #[sv, .func (.func f) #[] caps] w fun e w' => e = .returned (.int .i64 (idxP p l)) ∧ Below w.heap.size w w' := by
  obtain ⟨A, cap, rfl, hc, hr⟩ := hs.row
  rw [intv_len] at *
  obtain ⟨n, hlen⟩ : ∃ n, l.length = n := ⟨_, rfl⟩
  rw [hlen] at hn hc ⊢
  have Hr := Lib.hid hr
  have Hp := Lib.hid hp
  have Hlen := Lib.hid hlen
  clear hr hlen hs hc hp
  go_enter Try.func66, Try.ntmps66
  go_wp2_with fail
  go_loopw [5, 8] (fun _ i wr => ∃ k : Nat, k ≤ n ∧ i = .int .i64 k ∧ Hid (∀ j (hj : j < l.length), j < k → p l[j] = false) ∧ Hid (Below w.heap.size w wr)) (fun _ i _ => n - (intOf i).toNat)
  case atStart => exact ⟨0, by omega, rfl, Lib.hid (fun j hj h => absurd h (by omega)), Lib.hid (Below.refl _ _)⟩
  case round =>
    obtain ⟨k, hk, rfl, Hz, Hb⟩ := hrel
    by_cases hlt : k < n
    · have hkx : k < l.length := by rw [Hlen.out]; exact hlt
      obtain ⟨g, o, rfl, hg, hc⟩ := Hr.out (by rw [intv_len]; omega)
      have hcell := intv_cell hc Hb.out hg hkx
      have hlg : g < wr.heap.size := Nat.lt_of_lt_of_le hg Hb.out.size
      have hpk := Hp.out l[k] _ Hb.out
      clear hc
      cases hv : p l[k]
      · rw [hv] at hpk
        have HV : Hid (∀ j (hj : j < l.length), j < k + 1 → p l[j] = false) := Lib.hid (fun j hj h => by
          by_cases e : j = k
          · subst e; exact hv
          · exact Hz.out j hj (by omega))
        have Hpk := Lib.hid hpk
        clear hv hpk Hz
        generalize l[k] = x at *
        go_wp2_with (first
          | ((with_reducible refine Hpk.out.mono ?_)
             rintro e w1 ⟨rfl, hb1⟩
             have Hb1 := Lib.hid (Hb.out.trans (hb1.mono Hb.out.size))
             clear hb1)
          )
        go_roundw
        case rel => exact ⟨k + 1, by omega, by go_num, HV, Hb1⟩
        case measure => simp [intOf]; omega
      · have hz : idxP p l = k := idxP_found p l k hkx hv (fun j hj => Hz.out j (by omega) hj)
        rw [hv] at hpk
        have HZ := Lib.hid hz
        have Hpk := Lib.hid hpk
        clear hv hpk hz
        generalize l[k] = x at *
        go_wp2_with (first
          | ((with_reducible refine Hpk.out.mono ?_)
             rintro e w1 ⟨rfl, hb1⟩
             have Hb1 := Lib.hid (Hb.out.trans (hb1.mono Hb.out.size))
             clear hb1)
          )
        go_ret
        exact ⟨ret_int HZ.out.symm, Hb1.out⟩
    · have hz : idxP p l = -1 := idxP_none p l (fun j hj => Hz.out j hj (by have := Hlen.out; omega))
      have HZ := Lib.hid hz
      clear hz
      go_wp2_with fail
      go_ret
      exact ⟨ret_int HZ.out.symm, Hb.out⟩
set_option maxRecDepth 100000 in
theorem anyf_int (p : Int → Bool) (l : List Int) (sv : Value) (f : Nat) (caps : Array Value) (w : World) (hn : l.length ≤ 9223372036854775807) (hs : SlAt w 1 sv (intv l))
    (hf : ∀ (args : Array Value) (W : World), (callFunc f args).run Try.prog W = .ok (.enter f args) W)
    (hp : ∀ (v : Int) (W : World), Below w.heap.size w W → Calls Try.prog f (#[.int .i64 v] ++ caps) W fun e w' => e = .returned (.bool (p v)) ∧ Below W.heap.size W w') :
    Calls Try.prog 54 #[sv, .func (.func f) #[] caps] w fun e w' => e = .returned (.bool (l.any p)) ∧ Below w.heap.size w w' := by
  have H := Lib.hid (idxf_int p l sv f caps w hn hs hf hp)
  have Ha := Lib.hid (idxP_any p l)
  clear hs hp hf
  generalize idxP _ _ = r at *
  generalize l.any p = b at *
  generalize l.length = n at *
  go_enter Try.func54, Try.ntmps54
  go_wp2_with (first
    | ((with_reducible refine H.out.mono ?_)
       rintro e w1 ⟨rfl, hb1⟩
       skip)
    )
  go_ret
  exact ⟨by rw [← Ha.out]; rfl, hb1⟩
set_option maxRecDepth 100000 in
theorem right1_any (v : Int) (q : PRow) (PB : Nat) (w : World) (hn : q.p.ins.length ≤ 9223372036854775807) (hs : SlAt w 1 q.iv (intv q.p.ins)) (hc : w.cell? ⟨PB, 1, none⟩ = some q.iv) :
    Calls Try.prog 55 #[.int .i64 v, .pointer (some ⟨PB, 0, none⟩)] w fun e w' => e = .returned (.bool (!decide (v ∈ q.p.ins))) ∧ Below w.heap.size w w' := by
  have H := Lib.hid (has_int q.p.ins v q.iv w hn hs)
  obtain ⟨A, cap, e, _, _⟩ := hs.row
  rw [e] at H hc
  clear hs e
  generalize decide (v ∈ q.p.ins) = b at *
  go_enter Try.func55, Try.ntmps55
  go_wp2_with (first
    | ((with_reducible refine H.out.mono ?_)
       rintro e w1 ⟨rfl, hb1⟩
       skip)
    )
  go_ret
  exact ⟨rfl, hb1⟩
end Go.Proofs.Ytoenlcmngdpkmaa

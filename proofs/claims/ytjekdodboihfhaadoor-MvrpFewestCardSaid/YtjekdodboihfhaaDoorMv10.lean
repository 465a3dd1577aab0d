/- mvrp: the fact, and what the laws call. -/
import Derived.Test.YtjekdodboihfhaaDoorMv9
set_option linter.all false
namespace Go.Proofs.YtjekdodboihfhaaDoor
open Go.RowKit
set_option maxRecDepth 100000 in
theorem same_any (R R' : List ARow) (n : Nat) (hlen : R.length = n) (he : R.map ARow.a = R'.map ARow.a) (A A' : Option Addr) (c c' : Nat) (w : World) (hn : n ≤ 9223372036854775807) (hbig : ∀ r ∈ R, r.a.evs.length ≤ 9223372036854775807) (h : AvsAt w R A) (h' : AvsAt w R' A') :
    Calls Tryd.prog 18 #[.slice A n c, .slice A' n c'] w fun e w' => e = .returned (.bool true) ∧ Below w.heap.size w w' := by
  have H := Lib.hid (eqF_any R R' n hlen he A A' c c' w hn hbig h h')
  clear h h' hlen he hbig
  go_enter Tryd.func18, Tryd.ntmps18
  go_wp2_with (first
    | ((with_reducible refine H.out.mono ?_)
       rintro e w3 ⟨rfl, hb3⟩
       have H3 := Lib.hid hb3
       clear hb3))
  go_ret
  exact ⟨rfl, H3.out⟩
set_option maxRecDepth 100000 in
set_option maxHeartbeats 2000000 in
theorem lots_any (R : List ARow) (n : Nat) (hlen : R.length = n) (A : Option Addr) (c : Nat) (w : World) (hn : n ≤ 9223372036854775807) (h : AvsAt w R A) :
    Calls Tryd.prog 6 #[.slice A n c] w fun e w' => (∃ b, e = .returned (.bool b)) ∧ Below w.heap.size w w' := by
  have H := Lib.hid h
  have Hlen := Lib.hid hlen
  clear h hlen
  go_enter Tryd.func6, Tryd.ntmps6
  go_wp2_with fail
  go_loopw [3, 5, 10] (fun s3 _ i wr => ∃ (k : Nat) (x : Int), k ≤ n ∧ s3 = .int .i64 x ∧ i = .int .i64 k ∧ Hid (Below w.heap.size w wr)) (fun _ _ i _ => n - (intOf i).toNat)
  case atStart => exact ⟨0, (n : Int), by omega, rfl, rfl, Lib.hid (Below.refl _ _)⟩
  case round =>
    obtain ⟨k, x, hk, rfl, rfl, Hb⟩ := hrel
    by_cases hlt : k < n
    · have hkx : k < R.length := by rw [Hlen.out]; exact hlt
      obtain ⟨g, o, rfl, hg, hc⟩ := H.out.row (by rw [List.length_map]; omega)
      have h1 := hc k (by rw [List.length_map]; exact hkx)
      have e1 : (R.map ARow.vals)[k]'(by rw [List.length_map]; exact hkx) = R[k].vals := by simp
      rw [e1] at h1
      obtain ⟨A1, cap1, hsv, _, hs1⟩ := H.out.evs R[k] (List.getElem_mem hkx)
      have H1 := Lib.hid (rangeAt_below h1 Hb.out hg)
      have lg1 := Nat.lt_of_lt_of_le hg Hb.out.size
      clear hc e1 h1 hs1
      generalize R[k] = r at *
      have O1 : Hid (∀ v ∈ r.vals, v.oneCell' = true) := Lib.hid (Av.one r.a r.sv (by rw [hsv]; rfl))
      have Hsv := Lib.hid hsv
      clear hsv
      have hbsz := Hb.out.size
      have H0 := Lib.hid (St.init wr)
      go_upto_region 5 with (first
        | (with_reducible refine wpList_load_rng (ty := 38) r.vals (by with_unfolding_all rfl) H1.out Tryd.underlying38 (by with_unfolding_all rfl) (by with_unfolding_all exact info38) ?_)
        | ((with_reducible refine wpList_store_blk (ty := 38) (b := ?b3) (o := ?o3) (t := 38) zAv r.vals ?hx3 ?hy3 ?hB3 ?ho3 ?hi3 ?h13 ?hk3)
           case hx3 => rfl
           case hy3 => rfl
           case hB3 => exact Blk.new wr zAv 38
           case ho3 => exact Nat.le_refl _
           case hi3 => exact info38
           case h13 => exact O1.out
           intro W4 hBW4 hoW4))
      have H4 := Lib.hid ((H0.out.alloc zAv 38).sets (L' := r.vals) hBW4 hoW4)
      clear hBW4 hoW4 H0 H1
      have c2 : W4.cell? ⟨wr.heap.size, 2, none⟩ = some r.sv := (Blk.box (H4.out.at 0 rfl)).cell 2
      rw [Hsv.out] at c2
      have Hb5 := Lib.hid (Hb.out.trans (H4.out.below.mono (by omega)))
      generalize wr.heap.size = P1 at *
      go_wp2_with fail
      go_roundw
      case rel => exact ⟨k + 1, _, by omega, rfl, by go_num, Hb5⟩
      case measure => simp [intOf]; omega
    · go_wp2_with fail
      go_ret
      exact ⟨by simp, Hb.out⟩
set_option maxRecDepth 100000 in
set_option maxHeartbeats 1000000 in
theorem idxf_av (p : ARow → Bool) (R : List ARow) (n : Nat) (hlen : R.length = n) (A : Option Addr) (c : Nat) (f : Nat) (caps : Array Value) (w : World) (hn : n ≤ 9223372036854775807) (h : SlRow w w.heap.size 3 A (R.map ARow.vals))
    (hf : ∀ (args : Array Value) (W : World), (callFunc f args).run Tryd.prog W = .ok (.enter f args) W)
    (hp : ∀ r ∈ R, ∀ (W : World), Below w.heap.size w W → Calls Tryd.prog f (#[.agg r.vals.toArray] ++ caps) W fun e w' => e = .returned (.bool (p r)) ∧ Below W.heap.size W w') :
    Calls Tryd.prog 31 #[.slice A n c, .func (.func f) #[] caps] w fun e w' => e = .returned (.int .i64 (idxP p R)) ∧ Below w.heap.size w w' := by
  have Hr := Lib.hid h
  have Hp := Lib.hid hp
  have Hlen := Lib.hid hlen
  clear h hlen hp
  go_enter Tryd.func31, Tryd.ntmps31
  go_wp2_with fail
  go_loopw [5, 8] (fun _ i wr => ∃ k : Nat, k ≤ n ∧ i = .int .i64 k ∧ Hid (∀ j (hj : j < R.length), j < k → p R[j] = false) ∧ Hid (Below w.heap.size w wr)) (fun _ i _ => n - (intOf i).toNat)
  case atStart => exact ⟨0, by omega, rfl, Lib.hid (fun j hj h => absurd h (by omega)), Lib.hid (Below.refl _ _)⟩
  case round =>
    obtain ⟨k, hk, rfl, Hz, Hb⟩ := hrel
    by_cases hlt : k < n
    · have hkx : k < R.length := by rw [Hlen.out]; exact hlt
      obtain ⟨g, o, rfl, hg, hc⟩ := Hr.out (by rw [List.length_map]; omega)
      have h1 := hc k (by rw [List.length_map]; exact hkx)
      have e1 : (R.map ARow.vals)[k]'(by rw [List.length_map]; exact hkx) = R[k].vals := by simp
      rw [e1] at h1
      have H1 := Lib.hid (rangeAt_below h1 Hb.out hg)
      have hlg : g < wr.heap.size := Nat.lt_of_lt_of_le hg Hb.out.size
      have hpk := Hp.out R[k] (List.getElem_mem hkx) _ Hb.out
      clear hc e1 h1
      cases hv : p R[k]
      · rw [hv] at hpk
        have HV : Hid (∀ j (hj : j < R.length), j < k + 1 → p R[j] = false) := Lib.hid (fun j hj h => by
          by_cases e : j = k
          · subst e; exact hv
          · exact Hz.out j hj (by omega))
        have Hpk := Lib.hid hpk
        clear hv hpk Hz
        generalize R[k] = x at *
        go_wp2_with (first
          | (with_reducible refine wpList_load_rng (ty := 38) x.vals (by with_unfolding_all rfl) H1.out Tryd.underlying38 (by with_unfolding_all rfl) (by with_unfolding_all exact info38) ?_)
          | ((with_reducible refine Hpk.out.mono ?_)
             rintro e w1 ⟨rfl, hb1⟩
             have Hb1 := Lib.hid (Hb.out.trans (hb1.mono Hb.out.size))
             clear hb1)
          )
        go_roundw
        case rel => exact ⟨k + 1, by omega, by go_num, HV, Hb1⟩
        case measure => simp [intOf]; omega
      · have hz : idxP p R = k := idxP_found p R k hkx hv (fun j hj => Hz.out j (by omega) hj)
        rw [hv] at hpk
        have HZ := Lib.hid hz
        have Hpk := Lib.hid hpk
        clear hv hpk hz
        generalize R[k] = x at *
        go_wp2_with (first
          | (with_reducible refine wpList_load_rng (ty := 38) x.vals (by with_unfolding_all rfl) H1.out Tryd.underlying38 (by with_unfolding_all rfl) (by with_unfolding_all exact info38) ?_)
          | ((with_reducible refine Hpk.out.mono ?_)
             rintro e w1 ⟨rfl, hb1⟩
             have Hb1 := Lib.hid (Hb.out.trans (hb1.mono Hb.out.size))
             clear hb1)
          )
        go_ret
        exact ⟨ret_int HZ.out.symm, Hb1.out⟩
    · have hz : idxP p R = -1 := idxP_none p R (fun j hj => Hz.out j hj (by have := Hlen.out; omega))
      have HZ := Lib.hid hz
      clear hz
      go_wp2_with fail
      go_ret
      exact ⟨ret_int HZ.out.symm, Hb.out⟩
set_option maxRecDepth 100000 in
theorem anyf_av (p : ARow → Bool) (R : List ARow) (n : Nat) (hlen : R.length = n) (A : Option Addr) (c : Nat) (f : Nat) (caps : Array Value) (w : World) (hn : n ≤ 9223372036854775807) (h : SlRow w w.heap.size 3 A (R.map ARow.vals))
    (hf : ∀ (args : Array Value) (W : World), (callFunc f args).run Tryd.prog W = .ok (.enter f args) W)
    (hp : ∀ r ∈ R, ∀ (W : World), Below w.heap.size w W → Calls Tryd.prog f (#[.agg r.vals.toArray] ++ caps) W fun e w' => e = .returned (.bool (p r)) ∧ Below W.heap.size W w') :
    Calls Tryd.prog 11 #[.slice A n c, .func (.func f) #[] caps] w fun e w' => e = .returned (.bool (R.any p)) ∧ Below w.heap.size w w' := by
  have H := Lib.hid (idxf_av p R n hlen A c f caps w hn h hf hp)
  have Ha := Lib.hid (idxP_any p R)
  clear h hp hf hlen
  generalize idxP _ _ = r at *
  generalize R.any p = b at *
  go_enter Tryd.func11, Tryd.ntmps11
  go_wp2_with (first
    | ((with_reducible refine H.out.mono ?_)
       rintro e w1 ⟨rfl, hb1⟩
       skip)
    )
  go_ret
  exact ⟨by rw [← Ha.out]; rfl, hb1⟩
theorem right_at {R : List ARow} {A : Option Addr} {w : World} (h : AvsAt w R A) (hbig : ∀ r ∈ R, r.a.evs.length ≤ 9223372036854775807) {r : ARow} (hr : r ∈ R) (W : World) (hb : Below w.heap.size w W) :
    Calls Tryd.prog 13 #[.agg r.vals.toArray] W fun e w' => e = .returned (.bool r.a.okB) ∧ Below W.heap.size W w' := by
  obtain ⟨A1, cap1, hsv, hc, hs⟩ := h.evs r hr
  have := mvRight_any r.a A1 cap1 W (hbig r hr) hc ((hs.below hb (Nat.le_refl _)).more hb.size)
  rw [← hsv] at this
  exact this
theorem mvBody_len : ∀ l : List Av, (∀ a ∈ l, a.okB = true) → (mvBody l).length ≤ 140 * l.length
  | [], _ => by simp [mvBody]
  | a :: l, h => by
    have ih := mvBody_len l (fun x hx => h x (by simp [hx]))
    obtain ⟨_, _, _, h4, _⟩ := Av.ok_iff.1 (h a (by simp))
    have e : mvBody (a :: l) = a.bytes ++ mvBody l := rfl
    rw [e, List.length_append, Av.bytes_len, List.length_cons]
    omega
theorem mvBytes_len {l : List Av} (h : ∀ a ∈ l, a.okB = true) (h40 : l.length ≤ 40) : (mvBytes l).length ≤ 5607 := by
  have := mvBody_len l h
  unfold mvBytes
  split
  · decide
  · simp only [List.length_append, List.length_cons, List.length_nil]; omega
theorem mvRead_ok (l : List Av) (h : ∀ a ∈ l, a.okB = true) (h40 : l.length ≤ 40) (w : World) :
    Calls Tryd.prog 8 #[.string ⟨(mvBytes l).toArray⟩] w fun e w' => ∃ (L : List ARow) (A : Option Addr) (cap : Nat), L.map ARow.a = l ∧ e = .returned (.tuple #[.slice A l.length cap, .nilIface]) ∧ AvsAt w' L A ∧ Below w.heap.size w w' := by
  have hl := mvBytes_len h h40
  refine (mvRead_any (mvBytes l) (by omega) w).mono ?_
  rintro e w' ⟨hg, hb⟩
  obtain ⟨R, e1, _⟩ := readMv_bytes h h40 (by omega)
  obtain ⟨L, A, cap, k1, k2, _, k4, k5⟩ := hg.1 _ _ e1
  refine ⟨L, A, cap, k1, ?_, ⟨k4, k5⟩, hb⟩
  rw [k2, ← k1, List.length_map]
end Go.Proofs.YtjekdodboihfhaaDoor

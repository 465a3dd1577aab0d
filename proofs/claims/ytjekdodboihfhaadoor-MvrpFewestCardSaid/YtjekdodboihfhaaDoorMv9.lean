/- What the laws of mvrp ask besides: attributes compared, searched, counted. -/
import Derived.Test.YtjekdodboihfhaaDoorMv8
import Derived.Test.YtjekdodboihfhaaDoorShelf
set_option linter.all false
namespace Go.Proofs.YtjekdodboihfhaaDoor
open Go.RowKit
/-- Attributes in memory. -/
structure AvsAt (w : World) (R : List ARow) (A : Option Addr) : Prop where
  row : SlRow w w.heap.size 3 A (R.map ARow.vals)
  evs : EvsAt w R
theorem AvsAt.below {w W : World} {R : List ARow} {A : Option Addr} (h : AvsAt w R A) (hb : Below w.heap.size w W) : AvsAt W R A := ⟨(h.row.below hb (Nat.le_refl _)).more hb.size, h.evs.below hb⟩
theorem evEq_any (es : List Int) (A A' : Option Addr) (c c' : Nat) (w : World) (hn : es.length ≤ 9223372036854775807) (h : SlRow w w.heap.size 1 A (intv es)) (h' : SlRow w w.heap.size 1 A' (intv es)) :
    Calls Tryd.prog 36 #[.slice A es.length c, .slice A' es.length c'] w fun e w' => e = .returned (.bool true) ∧ Below w.heap.size w w' := by
  by_cases h0 : 0 < es.length
  · obtain ⟨g, o, rfl, hg, hc⟩ := h (by rw [intv_len]; exact h0)
    obtain ⟨g', o', rfl, hg', hc'⟩ := h' (by rw [intv_len]; exact h0)
    refine (Tryd.slices_Equal_int g o es.length c g' o' es.length c' es es w (Nat.le_refl _) (Nat.le_refl _) hn hn (fun j hj => ?_) (fun j hj => ?_)).mono ?_
    · rw [intv_cell hc (Below.refl _ _) hg hj, List.getD_eq_getElem?_getD, List.getElem?_eq_getElem hj]; rfl
    · rw [intv_cell hc' (Below.refl _ _) hg' hj, List.getD_eq_getElem?_getD, List.getElem?_eq_getElem hj]; rfl
    · rintro e w' ⟨rfl, q, rfl⟩
      exact ⟨by simp, below_drewN (Below.refl _ _) q⟩
  · have hl : es.length = 0 := by omega
    rw [hl]
    refine (Tryd.slices_Equal_int_empty A A' c 0 c' w (by decide)).mono ?_
    rintro e w' ⟨rfl, rfl⟩
    exact ⟨by simp, Below.refl _ _⟩
set_option maxRecDepth 100000 in
set_option maxHeartbeats 1000000 in
theorem avEq_any (a : Av) (A A' : Option Addr) (c c' : Nat) (w : World) (hn : a.evs.length ≤ 9223372036854775807) (h : SlRow w w.heap.size 1 A (intv a.evs)) (h' : SlRow w w.heap.size 1 A' (intv a.evs)) :
    Calls Tryd.prog 35 #[.agg #[.bool a.all, .int .i64 a.first, .slice A a.evs.length c], .agg #[.bool a.all, .int .i64 a.first, .slice A' a.evs.length c']] w fun e w' => e = .returned (.bool true) ∧ Below w.heap.size w w' := by
  have HE : Hid (∀ W, Below w.heap.size w W → Calls Tryd.prog 36 #[.slice A a.evs.length c, .slice A' a.evs.length c'] W fun e w' => e = .returned (.bool true) ∧ Below W.heap.size W w') := Lib.hid (fun W hb => evEq_any a.evs A A' c c' W hn ((h.below hb (Nat.le_refl _)).more hb.size) ((h'.below hb (Nat.le_refl _)).more hb.size))
  clear h h' hn
  obtain ⟨al, fi, es⟩ := a
  simp only [] at HE
  simp only []
  go_enter Tryd.func35, Tryd.ntmps35
  have hb2 : Below w.heap.size w ((w.alloc (.cells #[.bool al, .int .i64 fi, .slice A es.length c] 38)).alloc (.cells #[.bool al, .int .i64 fi, .slice A' es.length c'] 38)) := ((Below.refl w.heap.size w).alloc (Nat.le_refl _) _).alloc (by simp) _
  have HB2 := Lib.hid hb2
  clear hb2
  go_wp2_with (first
    | ((with_reducible refine (HE.out _ HB2.out).mono ?_)
       rintro e w3 ⟨rfl, hb3⟩
       have H3 := Lib.hid (HB2.out.trans (hb3.mono HB2.out.size))
       clear hb3))
  go_ret
  exact ⟨rfl, H3.out⟩
set_option maxRecDepth 100000 in
set_option maxHeartbeats 2000000 in
theorem eqF_any (R R' : List ARow) (n : Nat) (hlen : R.length = n) (he : R.map ARow.a = R'.map ARow.a) (A A' : Option Addr) (c c' : Nat) (w : World) (hn : n ≤ 9223372036854775807) (hbig : ∀ r ∈ R, r.a.evs.length ≤ 9223372036854775807) (h : AvsAt w R A) (h' : AvsAt w R' A') :
    Calls Tryd.prog 34 #[.slice A n c, .slice A' n c', .func (.func 35) #[] #[]] w fun e w' => e = .returned (.bool true) ∧ Below w.heap.size w w' := by
  have hlen' : R'.length = n := by
    have := congrArg List.length he
    rw [List.length_map, List.length_map] at this
    omega
  have H := Lib.hid h
  have H' := Lib.hid h'
  have Hlen := Lib.hid hlen
  have Hlen' := Lib.hid hlen'
  have He := Lib.hid he
  have Hbig := Lib.hid hbig
  clear h h' hlen hlen' he hbig
  go_enter Tryd.func34, Tryd.ntmps34
  go_wp2_with fail
  go_loopw [7, 8, 9, 17] (fun _ _ _ i wr => ∃ k : Nat, k ≤ n ∧ i = .int .i64 k ∧ Hid (Below w.heap.size w wr)) (fun _ _ _ i _ => n - (intOf i).toNat)
  case atStart => exact ⟨0, by omega, rfl, Lib.hid (Below.refl _ _)⟩
  case round =>
    obtain ⟨k, hk, rfl, Hb⟩ := hrel
    by_cases hlt : k < n
    · have hkx : k < R.length := by rw [Hlen.out]; exact hlt
      have hkx' : k < R'.length := by rw [Hlen'.out]; exact hlt
      obtain ⟨g, o, rfl, hg, hc⟩ := H.out.row (by rw [List.length_map]; omega)
      obtain ⟨g', o', rfl, hg', hc'⟩ := H'.out.row (by rw [List.length_map]; omega)
      have h1 := hc k (by rw [List.length_map]; exact hkx)
      have h2 := hc' k (by rw [List.length_map]; exact hkx')
      have e1 : (R.map ARow.vals)[k]'(by rw [List.length_map]; exact hkx) = R[k].vals := by simp
      have e2 : (R'.map ARow.vals)[k]'(by rw [List.length_map]; exact hkx') = R'[k].vals := by simp
      rw [e1] at h1
      rw [e2] at h2
      have ea : R[k].a = R'[k].a := by
        have h3 : (R.map ARow.a)[k]? = (R'.map ARow.a)[k]? := by rw [He.out]
        rw [List.getElem?_map, List.getElem?_map, List.getElem?_eq_getElem hkx, List.getElem?_eq_getElem hkx'] at h3
        simpa using h3
      have hb1 := Hbig.out R[k] (List.getElem_mem hkx)
      obtain ⟨A1, cap1, hsv, _, hs1⟩ := H.out.evs R[k] (List.getElem_mem hkx)
      obtain ⟨A2, cap2, hsv', _, hs2⟩ := H'.out.evs R'[k] (List.getElem_mem hkx')
      have H1 := Lib.hid (rangeAt_below h1 Hb.out hg)
      have H2 := Lib.hid (rangeAt_below h2 Hb.out hg')
      have lg1 := Nat.lt_of_lt_of_le hg Hb.out.size
      have lg2 := Nat.lt_of_lt_of_le hg' Hb.out.size
      clear hc hc' e1 e2 h1 h2
      generalize R[k] = r at *
      generalize R'[k] = r' at *
      obtain ⟨a, sv⟩ := r
      obtain ⟨a', sv'⟩ := r'
      simp only at ea hsv hsv' hb1 hs1 hs2
      subst ea
      subst hsv
      subst hsv'
      have HE : Hid (∀ W, Below w.heap.size w W → Calls Tryd.prog 35 #[.agg (ARow.vals ⟨a, .slice A1 a.evs.length cap1⟩).toArray, .agg (ARow.vals ⟨a, .slice A2 a.evs.length cap2⟩).toArray] W fun e w' => e = .returned (.bool true) ∧ Below W.heap.size W w') := Lib.hid (fun W hb => avEq_any a A1 A2 cap1 cap2 W hb1 ((hs1.below hb (Nat.le_refl _)).more hb.size) ((hs2.below hb (Nat.le_refl _)).more hb.size))
      have O1 : Hid (∀ v ∈ ARow.vals ⟨a, .slice A1 a.evs.length cap1⟩, v.oneCell' = true) := Lib.hid (Av.one a _ rfl)
      have O2 : Hid (∀ v ∈ ARow.vals ⟨a, .slice A2 a.evs.length cap2⟩, v.oneCell' = true) := Lib.hid (Av.one a _ rfl)
      clear hs1 hs2
      generalize ARow.mk a (.slice A1 a.evs.length cap1) = r1 at *
      generalize ARow.mk a (.slice A2 a.evs.length cap2) = r2 at *
      have hbsz := Hb.out.size
      have H0 := Lib.hid (St.init wr)
      go_upto_region 6 with (first
        | (with_reducible refine wpList_load_rng (ty := 38) r1.vals (by with_unfolding_all rfl) H1.out Tryd.underlying38 (by with_unfolding_all rfl) (by with_unfolding_all exact info38) ?_)
        | ((with_reducible refine wpList_store_blk (ty := 38) (b := ?b3) (o := ?o3) (t := 38) zAv r1.vals ?hx3 ?hy3 ?hB3 ?ho3 ?hi3 ?h13 ?hk3)
           case hx3 => rfl
           case hy3 => rfl
           case hB3 => exact Blk.new wr zAv 38
           case ho3 => exact Nat.le_refl _
           case hi3 => exact info38
           case h13 => exact O1.out
           intro W4 hBW4 hoW4))
      have H4 := Lib.hid ((H0.out.alloc zAv 38).sets (L' := r1.vals) hBW4 hoW4)
      have H24 := Lib.hid (rangeAt_below H2.out H4.out.below lg2)
      clear hBW4 hoW4 H0 H1 H2
      have hlW4 : g' < W4.heap.size := Nat.lt_of_lt_of_le lg2 H4.out.below.size
      generalize wr.heap.size = P1 at *
      go_upto_region 7 with (first
        | (with_reducible refine wpList_load_rng (ty := 38) r2.vals (by with_unfolding_all rfl) H24.out Tryd.underlying38 (by with_unfolding_all rfl) (by with_unfolding_all exact info38) ?_)
        | ((with_reducible refine wpList_store_blk (ty := 38) (b := ?b5) (o := ?o5) (t := 38) zAv r2.vals ?hx5 ?hy5 ?hB5 ?ho5 ?hi5 ?h15 ?hk5)
           case hx5 => rfl
           case hy5 => rfl
           case hB5 => exact Blk.new W4 zAv 38
           case ho5 => exact Nat.le_refl _
           case hi5 => exact info38
           case h15 => exact O2.out
           intro W5 hBW5 hoW5))
      have H5 := Lib.hid ((H4.out.alloc zAv 38).sets (L' := r2.vals) hBW5 hoW5)
      clear hBW5 hoW5 H4 H24
      generalize W4.heap.size = P2 at *
      have Hb5 := Lib.hid (Hb.out.trans (H5.out.below.mono (by omega)))
      go_wp2_with (first
        | (with_reducible refine wpList_load_rng (ty := 38) r1.vals (by with_unfolding_all rfl) (Blk.box (H5.out.at 1 rfl)).range Tryd.underlying38 (by with_unfolding_all rfl) (by with_unfolding_all exact info38) ?_)
        | (with_reducible refine wpList_load_rng (ty := 38) r2.vals (by with_unfolding_all rfl) (Blk.box (H5.out.at 0 rfl)).range Tryd.underlying38 (by with_unfolding_all rfl) (by with_unfolding_all exact info38) ?_)
        | ((with_reducible refine (HE.out _ Hb5.out).mono ?_)
           rintro e w6 ⟨rfl, hb6⟩
           have Hb6 := Lib.hid (Hb5.out.trans (hb6.mono Hb5.out.size))
           clear hb6))
      go_roundw
      case rel => exact ⟨k + 1, by omega, by go_num, Hb6⟩
      case measure => simp [intOf]; omega
    · go_wp2_with fail
      go_ret
      exact ⟨rfl, Hb.out⟩
end Go.Proofs.YtjekdodboihfhaaDoor

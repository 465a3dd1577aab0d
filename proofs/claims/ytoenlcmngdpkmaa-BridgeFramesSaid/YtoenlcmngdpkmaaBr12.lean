/- sets; State. -/
import Derived.Test.YtoenlcmngdpkmaaBr11
namespace Go.Proofs.Ytoenlcmngdpkmaa
open Go.RowKit
def setsM (L : List PSet) : Bool := !decide (L.length = 0) && (decide (L.length ≤ 8) && L.all fun p => decide (p.ins.length + p.bare.length ≤ 140) && rightP p)
set_option maxRecDepth 100000 in
set_option maxHeartbeats 4000000 in
theorem sets_any (L : List PRow) (v : Value) (w : World) (hv : IsPorts w v L) :
    Calls Try.prog 29 #[v] w fun e w' => e = .returned (.bool (setsM (L.map PRow.p))) ∧ Below w.heap.size w w' := by
  obtain ⟨hs, hq, hlen, hsub⟩ := hv
  obtain ⟨A, cap, rfl, hc, hr⟩ := hs.row
  rw [List.length_map] at *
  have Hr := Lib.hid hr
  have Hq := Lib.hid hq
  have Hsub := Lib.hid hsub
  have HS : Hid (setsM (L.map PRow.p) = (!decide (L.length = 0) && (decide (L.length ≤ 8) && (L.map PRow.p).all fun p => decide (p.ins.length + p.bare.length ≤ 140) && rightP p))) := Lib.hid (by unfold setsM; rw [List.length_map])
  obtain ⟨n, hn⟩ : ∃ n, L.length = n := ⟨_, rfl⟩
  have Hn := Lib.hid hn
  rw [hn] at hlen hc HS ⊢
  clear hr hq hsub hs hn
  go_enter Try.func29, Try.ntmps29
  by_cases h0 : n = 0
  · have Hf : Hid (setsM (L.map PRow.p) = false) := Lib.hid (by rw [HS.out, decide_eq_true h0]; rfl)
    subst h0
    go_wp2_with fail
    go_ret
    exact ⟨by rw [Hf.out]; rfl, Below.refl _ _⟩
  by_cases h8 : 8 < n
  · have Hf : Hid (setsM (L.map PRow.p) = false) := Lib.hid (by rw [HS.out, decide_eq_false (p := n ≤ 8) (by omega)]; simp)
    have hn0 : ((n : Int) == 0) = false := beq_eq_false_iff_ne.2 (by omega)
    go_wp2_with fail
    go_ret
    exact ⟨by rw [Hf.out]; rfl, Below.refl _ _⟩
  have hn0 : ((n : Int) == 0) = false := beq_eq_false_iff_ne.2 (by omega)
  have HS2 : Hid (setsM (L.map PRow.p) = (L.map PRow.p).all fun p => decide (p.ins.length + p.bare.length ≤ 140) && rightP p) := Lib.hid (by rw [HS.out, decide_eq_false h0, decide_eq_true (p := n ≤ 8) (by omega)]; rfl)
  clear HS
  go_wp2_with fail
  go_loopw [4, 15] (fun _ i wr => ∃ k : Nat, k ≤ n ∧ i = .int .i64 k ∧ Hid (∀ j (hj : j < L.length), j < k → (decide (L[j].p.ins.length + L[j].p.bare.length ≤ 140) && rightP L[j].p) = true) ∧ Hid (Below w.heap.size w wr)) (fun _ i _ => n - (intOf i).toNat)
  case atStart => exact ⟨0, by omega, rfl, Lib.hid (fun j hj h => absurd h (by omega)), Lib.hid (Below.refl _ _)⟩
  case round =>
    obtain ⟨k, hk, rfl, HK, HB⟩ := hrel
    by_cases hlk : k < n
    · have hkx : k < L.length := by rw [Hn.out]; exact hlk
      obtain ⟨g, o, rfl, hg, hcr⟩ := Hr.out (by rw [List.length_map]; omega)
      have hc1 := hcr k (by rw [List.length_map]; exact hkx)
      rw [List.getElem_map] at hc1
      have Hc1 := Lib.hid (rangeAt_below hc1 HB.out hg)
      have hqin := Hq.out _ (List.getElem_mem hkx)
      have hsb := Hsub.out _ (List.getElem_mem hkx)
      have hall : (decide (L[k].p.ins.length + L[k].p.bare.length ≤ 140) && rightP L[k].p) = false → setsM (L.map PRow.p) = false := fun h => by
        rw [HS2.out, List.all_eq_false]
        exact ⟨_, List.mem_map.2 ⟨_, List.getElem_mem hkx, rfl⟩, by rw [h]; simp⟩
      have hnext : (decide (L[k].p.ins.length + L[k].p.bare.length ≤ 140) && rightP L[k].p) = true → ∀ j (hj : j < L.length), j < k + 1 → (decide (L[j].p.ins.length + L[j].p.bare.length ≤ 140) && rightP L[j].p) = true := fun h j hj hjk => by
        by_cases e : j = k
        · subst e; exact h
        · exact HK.out j hj (by omega)
      have Hall := Lib.hid hall
      have Hnext := Lib.hid hnext
      clear hc1 hcr hall hnext HK
      generalize L[k] = q at *
      have Hqin := Lib.hid hqin
      have Hq1 := Lib.hid (PRow.one hqin)
      obtain ⟨A1, k1, e1, _, _⟩ := hqin.1
      obtain ⟨A2, k2, e2, _, _⟩ := hqin.2
      rw [intv_len] at e1 e2
      clear hqin
      go_upto_region 6 with (first
        | ((with_reducible refine wpList_load_rng (ty := 44) (b := ?b1) (o := ?o1) (ds := ?ds1) q.vals ?hx1 ?hB1 ?hu1 ?hd1 ?hi1 ?hk1)
           case hx1 => rfl
           case hB1 => exact Hc1.out
           case hu1 => exact Try.underlying44
           case hd1 => rfl
           case hi1 => exact info44)
        | ((with_reducible refine wpList_store_blk (ty := 44) (b := ?b2) (o := ?o2) (t := 44) zPS q.vals ?hx2 ?hy2 ?hB2 ?ho2 ?hi2 ?h12 ?hk2)
           case hx2 => rfl
           case hy2 => rfl
           case hB2 => exact Blk.new wr zPS 44
           case ho2 => exact Nat.le_refl _
           case hi2 => exact info44
           case h12 => exact Hq1.out
           intro W5 hBW5 hoW5))
      obtain ⟨hb8, lPP⟩ := Only.fresh hoW5
      have HB5 := Lib.hid (HB.out.trans (hb8.mono HB.out.size))
      have HX := Lib.hid hBW5
      have c1 : W5.cell? ⟨wr.heap.size, 1, none⟩ = some q.iv := (HX.out.box).cell 1
      have c2 : W5.cell? ⟨wr.heap.size, 2, none⟩ = some q.bv := (HX.out.box).cell 2
      have c0 : W5.cell? ⟨wr.heap.size, 0, none⟩ = some (.int .i64 q.p.pvid) := (HX.out.box).cell 0
      have c3 : W5.cell? ⟨wr.heap.size, 3, none⟩ = some (.int .i64 q.p.state) := (HX.out.box).cell 3
      rw [e1] at c1
      rw [e2] at c2
      clear hBW5 hoW5 hb8 HB Hc1
      generalize wr.heap.size = PP at *
      have HRg : Hid (∀ X, Below w.heap.size w X → Calls Try.prog 27 #[.agg #[.int .i64 q.p.pvid, .slice A1 q.p.ins.length k1, .slice A2 q.p.bare.length k2, .int .i64 q.p.state]] X fun e w' => e = .returned (.bool (rightP q.p)) ∧ Below X.heap.size X w') := Lib.hid fun X hX => by
        have h := right_any q X (Hqin.out.below hX) hsb.1 hsb.2
        unfold PRow.vals at h
        rw [e1, e2] at h
        exact h
      have HRl : Hid (rightP q.p = true → q.p.ins.length ≤ 64 ∧ q.p.bare.length ≤ 4094) := Lib.hid rightP_len
      obtain ⟨hs1, hs2⟩ := hsb
      clear e1 e2
      generalize q.p.ins.length = n1 at *
      generalize q.p.bare.length = n2 at *
      by_cases h140 : n1 + n2 ≤ 140
      · cases hrt : rightP q.p
        · rw [hrt] at HRg
          have Hf : Hid (setsM (L.map PRow.p) = false) := Lib.hid (Hall.out (by rw [hrt]; simp))
          clear hrt
          go_wp2_with (first
            | ((with_reducible refine (HRg.out _ HB5.out).mono ?_)
               rintro e w6 ⟨rfl, hb6⟩
               have HB6 := Lib.hid (HB5.out.trans (hb6.mono HB5.out.size))
               clear hb6)
            )
          go_ret
          exact ⟨by rw [Hf.out]; rfl, HB6.out⟩
        · rw [hrt] at HRg
          have Hnx := Lib.hid (Hnext.out (by rw [hrt, decide_eq_true h140]; rfl))
          clear hrt
          go_wp2_with (first
            | ((with_reducible refine (HRg.out _ HB5.out).mono ?_)
               rintro e w6 ⟨rfl, hb6⟩
               have HB6 := Lib.hid (HB5.out.trans (hb6.mono HB5.out.size))
               clear hb6)
            )
          go_roundw
          case rel => exact ⟨k + 1, by omega, by go_num, Hnx, HB6⟩
          case measure => simp [intOf]; omega
      · have Hf : Hid (setsM (L.map PRow.p) = false) := Lib.hid (Hall.out (by rw [decide_eq_false h140]; rfl))
        by_cases hov : n1 + n2 ≤ 9223372036854775807
        · go_wp2_with fail
          go_ret
          exact ⟨by rw [Hf.out]; rfl, HB5.out⟩
        · have hrt : rightP q.p = false := by
            cases h : rightP q.p
            · rfl
            · have := HRl.out h; omega
          rw [hrt] at HRg
          have hw : IntKind.i64.wrap ((n1 : Int) + (n2 : Int)) = (n1 : Int) + (n2 : Int) - 18446744073709551616 := by
            unfold IntKind.wrap
            simp [IntKind.bits, IntKind.signed]
            omega
          clear hrt
          go_wp2_with (first
            | ((with_reducible refine (HRg.out _ HB5.out).mono ?_)
               rintro e w6 ⟨rfl, hb6⟩
               have HB6 := Lib.hid (HB5.out.trans (hb6.mono HB5.out.size))
               clear hb6)
            )
          go_ret
          exact ⟨by rw [Hf.out]; rfl, HB6.out⟩
    · obtain rfl : n = k := by omega
      have Ht : Hid (setsM (L.map PRow.p) = true) := Lib.hid (by
        rw [HS2.out, List.all_eq_true]
        intro p hp
        obtain ⟨q, hq, rfl⟩ := List.mem_map.1 hp
        obtain ⟨j, hj, rfl⟩ := List.getElem_of_mem hq
        exact HK.out j hj (by rw [← Hn.out]; exact hj))
      go_wp2_with fail
      go_ret
      exact ⟨by rw [Ht.out]; rfl, HB.out⟩
end Go.Proofs.Ytoenlcmngdpkmaa

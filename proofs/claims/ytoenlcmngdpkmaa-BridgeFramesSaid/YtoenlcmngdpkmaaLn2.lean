/- The table of addresses: Look, Len. -/
import Derived.Test.YtoenlcmngdpkmaaLn1
namespace Go.Proofs.Ytoenlcmngdpkmaa
open Go.RowKit
set_option maxRecDepth 100000 in
set_option maxHeartbeats 4000000 in
theorem look_any (es : List Ent) (T base : Nat) (age now : Int) (sv : Value) (vid : Int) (a : Ad) (t : Int) (w : World) (h : TabIn w base T age now sv es) (h32 : es.length ≤ 32) (htm : ∀ e ∈ es, 0 ≤ e.tm ∧ e.tm ≤ 1099511627776) (ht : 0 ≤ t) (ht2 : t ≤ 1099511627776) :
    Calls Try.prog 17 #[.pointer (some ⟨T, 0, none⟩), .int .i64 vid, .agg a.vals.toArray, .int .i64 t] w fun e w' => e = .returned (.int .i64 (lookM es vid a t age)) ∧ Below w.heap.size w w' := by
  obtain ⟨A, cap, rfl, hcap, hrow⟩ := ent_rows h.row rfl
  have hBA := Blk.new w a.vals 30
  have hb0 : Below w.heap.size w (w.alloc (.cells a.vals.toArray 30)) := (Below.refl _ _).alloc (Nat.le_refl _) _
  have hlt : w.heap.size < (w.alloc (.cells a.vals.toArray 30)).heap.size := by simp
  have hcT : (w.alloc (.cells a.vals.toArray 30)).cell? ⟨T, 2, none⟩ = some (.slice A es.length cap) := laterc (h.blk.box.cell 2) hb0 h.lt
  have hcA0 : (w.alloc (.cells a.vals.toArray 30)).cell? ⟨T, 0, none⟩ = some (.int .i64 age) := laterc (h.blk.box.cell 0) hb0 h.lt
  have hr2 : Hid (0 < es.length → ∃ g, A = some ⟨g, 0, none⟩ ∧ g < (w.alloc (.cells a.vals.toArray 30)).heap.size ∧ ∀ k (hk : k < es.length), (w.alloc (.cells a.vals.toArray 30)).rangeAt g (k * 9) es[k].vals) := Lib.hid fun h0 => by
    obtain ⟨g, e1, _, e3, hk⟩ := hrow h0
    exact ⟨g, e1, Nat.lt_of_lt_of_le e3 hb0.size, fun k hk' => rangeAt_below (hk k hk') hb0 e3⟩
  have hT : T < (w.alloc (.cells a.vals.toArray 30)).heap.size := Nat.lt_of_lt_of_le h.lt hb0.size
  have Htm := Lib.hid htm
  have HcA0 := Lib.hid hcA0
  have HBA := Lib.hid hBA
  have Hb0 := Lib.hid hb0
  have Hes : Hid (es.length = es.length) := Lib.hid rfl
  obtain ⟨n, hn⟩ : ∃ n, n = es.length := ⟨_, rfl⟩
  have Hn := Lib.hid hn
  rw [← hn] at hcT hcap h32
  clear hrow h htm hcA0 hBA hb0 Hes hn
  go_enter Try.func17, Try.ntmps17
  go_upto_region 1 with (fail)
  generalize w.alloc (.cells a.vals.toArray 30) = W1 at *
  have hW0 : w.heap.size ≤ W1.heap.size := Hb0.out.size
  generalize hPAe : w.heap.size = PA at *
  have HPAe := Lib.hid hPAe
  clear hPAe
  go_wp2_with fail
  go_loopw [8, 10, 16] (fun _ _ i wr => ∃ k : Nat, k ≤ n ∧ i = .int .i64 k ∧ Hid (∀ j (hj : j < es.length), j < k → (es[j].is vid a && es[j].on t age) = false) ∧ Hid (Below W1.heap.size W1 wr)) (fun _ _ i _ => n - (intOf i).toNat)
  case atStart => exact ⟨0, by omega, rfl, Lib.hid (fun j hj h => absurd h (by omega)), Lib.hid (Below.refl _ _)⟩
  case round =>
    obtain ⟨k, hk, rfl, Hz, HB⟩ := hrel
    by_cases hlk : k < n
    · have hkx : k < es.length := by rw [← Hn.out]; exact hlk
      obtain ⟨g, rfl, hg, hc⟩ := hr2.out (by omega)
      have Hc1 := Lib.hid (rangeAt_below (hc k hkx) HB.out hg)
      have hte := Htm.out es[k] (List.getElem_mem hkx)
      generalize he : es[k] = e at *
      have He := Lib.hid he
      clear hc he
      go_upto_region 4 with (first
        | ((with_reducible refine wpList_load_rng (ty := 88) (b := ?b1) (o := ?o1) (ds := ?ds1) e.vals ?hx1 ?hB1 ?hu1 ?hd1 ?hi1 ?hk1)
           case hx1 => rfl
           case hB1 => exact Hc1.out
           case hu1 => exact Try.underlying88
           case hd1 => rfl
           case hi1 => exact info88)
        | ((with_reducible refine wpList_store_blk (ty := 88) (b := ?b2) (o := ?o2) (t := 88) zEnt e.vals ?hx2 ?hy2 ?hB2 ?ho2 ?hi2 ?h12 ?hk2)
           case hx2 => rfl
           case hy2 => rfl
           case hB2 => exact Blk.new wr zEnt 88
           case ho2 => exact Nat.le_refl _
           case hi2 => exact info88
           case h12 => exact (Ent.one _)
           intro W4 hBW4 hoW4))
      obtain ⟨hb8, lPE⟩ := Only.fresh hoW4
      have HE : Hid (Blk W4 wr.heap.size 88 e.vals) := hBW4
      have hcv : W4.cell? ⟨wr.heap.size, 0, none⟩ = some (.int .i64 e.vid) := HE.out.box.cell 0
      have hcp : W4.cell? ⟨wr.heap.size, 7, none⟩ = some (.int .i64 e.port) := HE.out.box.cell 7
      have hct : W4.cell? ⟨wr.heap.size, 8, none⟩ = some (.int .i64 e.tm) := HE.out.box.cell 8
      have HRE : Hid (W4.rangeAt wr.heap.size 1 e.ad.vals) := Lib.hid (rng_left (a := e.ad.vals) (b := [.int .i64 e.port, .int .i64 e.tm]) (rng_right (a := [.int .i64 e.vid]) (b := e.ad.vals ++ [.int .i64 e.port, .int .i64 e.tm]) HE.out.box.range))
      have HB4 := Lib.hid (HB.out.trans (hb8.mono HB.out.size))
      have hcA := laterc HcA0.out HB4.out hT
      have HRA : Hid (W4.rangeAt PA 0 a.vals) := Lib.hid (rangeAt_below HBA.out.box.range HB4.out HBA.out.lt)
      have lT4 : T < W4.heap.size := Nat.lt_of_lt_of_le hT HB4.out.size
      have lPA : PA < W4.heap.size := Nat.lt_of_lt_of_le HBA.out.lt HB4.out.size
      clear hBW4 hoW4 hb8 HB Hc1 HE
      generalize wr.heap.size = PE at *
      have E2 : ∀ (W : World), (binOp .eql 30 (.agg e.ad.vals.toArray) (.agg a.vals.toArray)).run Try.prog W = .ok (.bool (decide (e.ad = a))) W := fun W => ad_eq e.ad a W
      have G2 : ∀ (x y : Operand) (W : World), (eqGuard .eql 30 x y (.agg e.ad.vals.toArray) (.agg a.vals.toArray)).run Try.prog W = .ok () W := fun x y W => ad_guard .eql _ _ x y W
      have hm : (es[k].is vid a && es[k].on t age) = (decide (e.vid = vid) && decide (e.ad = a) && decide (t - e.tm ≤ age)) := by rw [He.out]; rfl
      have hb1 : (e.vid == vid) = decide (e.vid = vid) := rfl
      generalize hd1 : decide (e.vid = vid) = b1 at *
      generalize hd2 : decide (e.ad = a) = b2 at *
      generalize hd3 : decide (t - e.tm ≤ age) = b3 at *
      have Hm := Lib.hid hm
      clear hd1 hd2 hm
      cases b1
      · refine wp_region_ext (by kernel_rfl) (by kernel_rfl) ?_
        repeat (go_big_quiet_step (fail))
        refine wpQuiet_nil ?_
        rintro W5 ⟨⟨_, hb9⟩, rfl⟩
        try simp only [] at *
        have HB5 := Lib.hid (HB4.out.trans (hb9.mono HB4.out.size))
        clear HB4 hb9 hcv hct hcA hb1 E2 G2 hd3
        go_wp2_with fail
        go_roundw
        case rel => exact ⟨k + 1, by omega, by go_num, Lib.hid (fun j hj h => by
          by_cases ej : j = k
          · subst ej; rw [Hm.out]; rfl
          · exact Hz.out j hj (by omega)), HB5⟩
        case measure => simp [intOf]; omega
      · cases b2
        · refine wp_region_ext (by kernel_rfl) (by kernel_rfl) ?_
          repeat (go_big_quiet_step (fail))
          go_big_quiet_want
          with_reducible refine quiet_load_rng (b := ?b3) (off := ?o3) (ds := ?ds3) e.ad.vals ?hx3 ?hr3 ?hu3 ?hd3 ?hi3 ?hk3
          case hx3 => rfl
          case hr3 => rintro _ ⟨y, rfl⟩; exact rangeAt_below HRE.out y.below lPE
          case hu3 => exact Try.underlying30
          case hd3 => rfl
          case hi3 => exact info30
          go_simp
          go_big_quiet_on
          repeat (go_big_quiet_step (fail))
          go_big_quiet_want
          with_reducible refine quiet_load_rng (b := ?b4) (off := ?o4) (ds := ?ds4) a.vals ?hx4 ?hr4 ?hu4 ?hd4 ?hi4 ?hk4
          case hx4 => rfl
          case hr4 => rintro _ ⟨y, rfl⟩; exact rangeAt_below HRA.out y.below lPA
          case hu4 => exact Try.underlying30
          case hd4 => rfl
          case hi4 => exact info30
          go_simp
          go_big_quiet_on
          repeat (go_big_quiet_step (fail))
          refine wpQuiet_nil ?_
          rintro W5 ⟨⟨_, hb9⟩, rfl⟩
          try simp only [] at *
          have HB5 := Lib.hid (HB4.out.trans (hb9.mono HB4.out.size))
          clear HB4 hb9 hcv hct hcA hb1 E2 G2 hd3
          go_wp2_with fail
          go_roundw
          case rel => exact ⟨k + 1, by omega, by go_num, Lib.hid (fun j hj h => by
            by_cases ej : j = k
            · subst ej; rw [Hm.out]; rfl
            · exact Hz.out j hj (by omega)), HB5⟩
          case measure => simp [intOf]; omega
        · cases b3
          · refine wp_region_ext (by kernel_rfl) (by kernel_rfl) ?_
            repeat (go_big_quiet_step (fail))
            go_big_quiet_want
            with_reducible refine quiet_load_rng (b := ?b5) (off := ?o5) (ds := ?ds5) e.ad.vals ?hx5 ?hr5 ?hu5 ?hd5 ?hi5 ?hk5
            case hx5 => rfl
            case hr5 => rintro _ ⟨y, rfl⟩; exact rangeAt_below HRE.out y.below lPE
            case hu5 => exact Try.underlying30
            case hd5 => rfl
            case hi5 => exact info30
            go_simp
            go_big_quiet_on
            repeat (go_big_quiet_step (fail))
            go_big_quiet_want
            with_reducible refine quiet_load_rng (b := ?b6) (off := ?o6) (ds := ?ds6) a.vals ?hx6 ?hr6 ?hu6 ?hd6 ?hi6 ?hk6
            case hx6 => rfl
            case hr6 => rintro _ ⟨y, rfl⟩; exact rangeAt_below HRA.out y.below lPA
            case hu6 => exact Try.underlying30
            case hd6 => rfl
            case hi6 => exact info30
            go_simp
            go_big_quiet_on
            repeat (go_big_quiet_step (fail))
            refine wpQuiet_nil ?_
            rintro W5 ⟨⟨_, hb9⟩, rfl⟩
            try simp only [] at *
            have HB5 := Lib.hid (HB4.out.trans (hb9.mono HB4.out.size))
            clear HB4 hb9 hcv hct hcA hb1 E2 G2 hd3
            go_wp2_with fail
            go_roundw
            case rel => exact ⟨k + 1, by omega, by go_num, Lib.hid (fun j hj h => by
              by_cases ej : j = k
              · subst ej; rw [Hm.out]; rfl
              · exact Hz.out j hj (by omega)), HB5⟩
            case measure => simp [intOf]; omega
          · refine wp_region_ext (by kernel_rfl) (by kernel_rfl) ?_
            repeat (go_big_quiet_step (fail))
            go_big_quiet_want
            with_reducible refine quiet_load_rng (b := ?b7) (off := ?o7) (ds := ?ds7) e.ad.vals ?hx7 ?hr7 ?hu7 ?hd7 ?hi7 ?hk7
            case hx7 => rfl
            case hr7 => rintro _ ⟨y, rfl⟩; exact rangeAt_below HRE.out y.below lPE
            case hu7 => exact Try.underlying30
            case hd7 => rfl
            case hi7 => exact info30
            go_simp
            go_big_quiet_on
            repeat (go_big_quiet_step (fail))
            go_big_quiet_want
            with_reducible refine quiet_load_rng (b := ?b8) (off := ?o8) (ds := ?ds8) a.vals ?hx8 ?hr8 ?hu8 ?hd8 ?hi8 ?hk8
            case hx8 => rfl
            case hr8 => rintro _ ⟨y, rfl⟩; exact rangeAt_below HRA.out y.below lPA
            case hu8 => exact Try.underlying30
            case hd8 => rfl
            case hi8 => exact info30
            go_simp
            go_big_quiet_on
            repeat (go_big_quiet_step (fail))
            refine wpQuiet_nil ?_
            rintro W5 ⟨⟨_, hb9⟩, rfl⟩
            try simp only [] at *
            have HB5 := Lib.hid (HB4.out.trans (hb9.mono HB4.out.size))
            have hcp5 := laterc hcp hb9 lPE
            have hlk := look_at hkx (by rw [Hm.out]; rfl) (fun j hj hjk => Hz.out j hj hjk)
            have Hlk := Lib.hid hlk
            clear HB4 hcv hct hcA hb1 E2 G2 hd3 hlk hcp
            go_wp2_with fail
            go_ret
            exact ⟨ret_int (by rw [Hlk.out, He.out]), by rw [HPAe.out]; exact Hb0.out.trans (HB5.out.mono hW0)⟩
    · obtain rfl : n = k := by omega
      have hlk := look_none (es := es) (vid := vid) (a := a) (now := t) (age := age) (fun j hj => Hz.out j hj (by rw [Hn.out]; exact hj))
      have Hlk := Lib.hid hlk
      clear hlk
      go_wp2_with fail
      go_ret
      exact ⟨ret_int Hlk.out.symm, by rw [HPAe.out]; exact Hb0.out.trans (HB.out.mono hW0)⟩
end Go.Proofs.Ytoenlcmngdpkmaa

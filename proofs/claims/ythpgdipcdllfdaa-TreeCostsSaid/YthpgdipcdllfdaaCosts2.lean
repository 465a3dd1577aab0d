/- TreeCosts: the walk. -/
import Derived.Test.YthpgdipcdllfdaaCosts1
import Derived.Test.YthpgdipcdllfdaaTree18
namespace Go.Proofs.Ythpgdipcdllfdaa
open Go.RowKit
theorem rng_left {w : World} {g o : Nat} {a b : List Value} (h : w.rangeAt g o (a ++ b)) : w.rangeAt g o a := fun j v hv => h j v (by
  rw [List.getElem?_append_left (List.getElem?_eq_some_iff.1 hv).1]; exact hv)
theorem rng_right {w : World} {g o : Nat} {a b : List Value} (h : w.rangeAt g o (a ++ b)) : w.rangeAt g (o + a.length) b := fun j v hv => by
  have := h (a.length + j) v (by rw [List.getElem?_append_right (by omega), Nat.add_sub_cancel_left]; exact hv)
  rw [Nat.add_assoc]; exact this
theorem own_at {w : World} {base n cap g : Nat} {V : List Vec} (h : w.ownsRow base 48 21 (.slice (some ⟨g, 0, none⟩) n cap) n (vrows V)) (hn : V.length = n) {j : Nat} (hj : j < n) : w.rangeAt g (j * 21) (vecAt V j).vals := by
  have hj5 : j < V.length := by omega
  obtain ⟨g', o', e', _, hr'⟩ := own_slrow h hn (by rw [List.length_map]; omega)
  injection e' with e'; injection e' with e1 e2
  subst e1 e2
  have := hr' j (by rw [List.length_map]; exact hj5)
  rw [Nat.zero_add, List.getElem_map] at this
  unfold vecAt
  rw [List.getD_eq_getElem?_getD, List.getElem?_eq_getElem hj5]
  exact this
set_option maxRecDepth 100000 in
set_option maxHeartbeats 16000000 in
theorem costs_any (L : List (Node × Value)) (A : Option Addr) (n cap : Nat) (hL : L.length = n) (hn : n ≤ 9223372036854775807) (hcap : n ≤ cap) (w : World) (hl : NodesIn w w.heap.size A L) :
    Calls Try.prog 7 #[.slice A n cap] w fun e w' => e = .returned (.bool true) ∧ Below w.heap.size w w' := by
  have hG := grown_any w
  have hN : ∀ W, Below w.heap.size w W → Calls Try.prog 15 #[.slice A n cap] W (NetsPost W (L.map (·.1))) := fun W hb => nets_any L A n cap hL hn hcap W ((hl.below hb (Nat.le_refl _)).imp hb.size)
  have hS : ∀ W, Below w.heap.size w W → n ≤ 12 → okTo (L.map (·.1)) n = true → PortsOk (L.map (·.1)) → Calls Try.prog 20 #[.slice A n cap] W (SolPost W (solveM (L.map (·.1)))) := fun W hb h12 hok hp =>
    solve_any L A n cap hL h12 hcap W ((hl.below hb (Nat.le_refl _)).imp hb.size) hok hp
  have HG := Lib.hid hG
  have HN := Lib.hid hN
  have HS := Lib.hid hS
  have HL := Lib.hid hL
  have Hl := Lib.hid hl
  have hll : (L.map (·.1)).length = n := by rw [List.length_map]; exact hL
  have Hll := Lib.hid hll
  have hnode : ∀ j (hj : j < L.length), nodeAt (L.map (·.1)) j = L[j].1 := fun j hj => by
    unfold nodeAt
    rw [List.getD_eq_getElem?_getD, List.getElem?_map, List.getElem?_eq_getElem hj]; rfl
  have Hnode := Lib.hid hnode
  generalize hl' : L.map (·.1) = l at *
  have hvl : (solveM l).length = n := by unfold solveM; rw [rounds_len, hll]
  have hsol : validNet l = true → Sol l (solveM l) := fun hv => sol_solve hv
  have hcst : PortsOk l → ∀ i, i < n → 0 ≤ (vecAt (solveM l) i).cost ∧ (vecAt (solveM l) i).cost ≤ 200000000 * (n : Int) := fun hp i hi => by
    have := rounds_cost hp l.length i (by omega)
    rw [hll] at this
    unfold solveM
    rw [hll]; exact this
  generalize hV : solveM l = V at *
  have HVl := Lib.hid hvl
  have HSol := Lib.hid hsol
  have Hcst := Lib.hid hcst
  clear hG hN hS hL hl hll hnode hl' hvl hsol hcst hV
  go_enter Try.func7, Try.ntmps7
  go_upto_region 3 with (first
    | ((with_reducible refine HG.out.mono ?_)
       rintro e w1 ⟨rfl, hb1⟩
       skip)
    )
  have HN1 := Lib.hid (HN.out w1 hb1)
  go_wp2_with (first
    | ((with_reducible refine HN1.out.mono ?_)
       rintro e w2 ⟨b, rfl, hyes, hb2⟩
       cases b
       rotate_left
       obtain ⟨h12, hok, hna⟩ := hyes rfl
       rw [Hll.out] at h12 hok
       have HS2 := HS.out w2 (hb1.trans (hb2.mono hb1.size)) h12 hok (netAt_ports hna))
    | ((with_reducible refine HS2.mono ?_)
       rintro e w3 ⟨v, rfl, hown, hb3⟩
       rw [HVl.out] at hown
       obtain ⟨AV, capV, rfl, hcapV, hAV, hsV⟩ := own_vecs hown HVl.out)
    )
  rotate_left
  · go_ret
    exact ⟨rfl, hb1.trans (hb2.mono hb1.size)⟩
  have hb4 := (hb1.trans (hb2.mono hb1.size)).trans (hb3.mono (hb1.trans (hb2.mono hb1.size)).size)
  have HoV := Lib.hid (own_base hown (hb1.trans (hb2.mono hb1.size)).size)
  have Hok := Lib.hid hok
  have Hna := Lib.hid hna
  clear hown hAV hsV hyes hb1 hb2 hb3 HS2 HN1 HN HS HG hok hna
  go_loopw [5, 6, 7, 9, 10, 11, 13, 35] (fun _ _ _ _ _ _ _ i wr => ∃ j : Nat, j ≤ n ∧ i = .int .i64 j ∧ Hid (wr.ownsRow w.heap.size 48 21 (.slice AV n capV) n (vrows V)) ∧ Below w.heap.size w wr) (fun _ _ _ _ _ _ _ i _ => n - (intOf i).toNat)
  case atStart => exact ⟨0, by omega, rfl, HoV, hb4⟩
  case round =>
    clear HoV hb4
    obtain ⟨j, hj, rfl, HoV, hbr⟩ := hrel
    by_cases hlj : j < n
    · have hjx : j < L.length := by rw [HL.out]; exact hlj
      have hjl : j < l.length := by rw [Hll.out]; exact hlj
      obtain ⟨g, o, rfl, hg, hc⟩ := Hl.out.row (by rw [List.length_map]; omega)
      have hc1 := hc j (by rw [List.length_map]; exact hjx)
      rw [List.getElem_map] at hc1
      have hmm := Hl.out.mems L[j] (List.getElem_mem hjx)
      have hnk := Hnode.out j hjx
      have hnj := Hna.out L[j].1 (by rw [← hnk]; unfold nodeAt; rw [List.getD_eq_getElem?_getD, List.getElem?_eq_getElem hjl]; exact List.getElem_mem hjl)
      generalize hN : L[j].1 = N at *
      generalize hS : L[j].2 = sv at *
      obtain ⟨A2, cap2, rfl, hcap2, hrow⟩ := hmm
      generalize hnp : N.ports.length = np at *
      have hp8 : np ≤ 8 := by
        unfold netAt at hnj
        simp only [Bool.and_eq_true, decide_eq_true_eq] at hnj
        omega
      obtain ⟨A5', cap5', e5, _, hA5, hsl5⟩ := own_vecs HoV.out HVl.out
      injection e5 with e5a e5b e5c
      subst e5a e5c
      obtain ⟨gV, rfl, hgV1, hgV2⟩ := hA5 (by omega)
      have Hc1 := Lib.hid (rangeAt_below hc1 hbr hg)
      have Hrow := Lib.hid hrow
      have Hnk := Lib.hid hnk
      have Hnp := Lib.hid hnp
      clear hc hc1 hN hS hrow hnk hnp hnj hA5 hsl5
      go_upto_region 11 with (first
        | ((with_reducible refine wpList_load_rng (ty := 32) (b := ?b4) (o := ?o4) (ds := ?ds4) (N.vals (.slice A2 np cap2)) ?hx4 ?hB4 ?hu4 ?hd4 ?hi4 ?hk4)
           case hx4 => rfl
           case hB4 => exact Hc1.out
           case hu4 => exact Try.underlying32
           case hd4 => rfl
           case hi4 => exact info32)
        | ((with_reducible refine wpList_store_blk (ty := 32) (b := ?b5) (o := ?o5) (t := 32) zNode (N.vals (.slice A2 np cap2)) ?hx5 ?hy5 ?hB5 ?ho5 ?hi5 ?h15 ?hk5)
           case hx5 => rfl
           case hy5 => rfl
           case hB5 => exact Blk.new wr zNode 32
           case ho5 => exact Nat.le_refl _
           case hi5 => exact info32
           case h15 => exact (Node.one _ _ _ _)
           intro W4 hBW4 hoW4))
      obtain ⟨hb4, lP⟩ := Only.fresh hoW4
      have HP : Hid (Blk W4 wr.heap.size 32 (N.vals (.slice A2 np cap2))) := hBW4
      have hb5 := hbr.trans (hb4.mono hbr.size)
      have HoV4 := Lib.hid (own_below HoV.out hb4 (Nat.le_refl _))
      have hc8 : W4.cell? ⟨wr.heap.size, 8, none⟩ = some (.slice A2 np cap2) := HP.out.box.cell 8
      have lV4 : gV < W4.heap.size := Nat.lt_of_lt_of_le hgV2 hb4.size
      generalize wr.heap.size = PI at *
      clear hBW4 hoW4 hb4 hbr Hc1 HoV hgV2
      have hjust : ∀ (W : World), (binOp .eql 29 (.agg (vecAt V j).root.vals.toArray) (.agg N.br.vals.toArray)).run Try.prog W = .ok (.bool (decide ((vecAt V j).root = N.br))) W := fun W => br_eq _ _ W
      have hjg : ∀ (x y : Operand) (W : World), (eqGuard .eql 29 x y (.agg (vecAt V j).root.vals.toArray) (.agg N.br.vals.toArray)).run Try.prog W = .ok () W := fun x y W => br_guard .eql _ _ x y W
      have HRt := Lib.hid (rng_left (a := (vecAt V j).root.vals) (own_at HoV4.out HVl.out hlj))
      have HBr := Lib.hid (rng_left (a := N.br.vals) HP.out.box.range)
      have lP4 : PI < W4.heap.size := HP.out.lt
      generalize hjb : decide ((vecAt V j).root = N.br) = jb at *
      have Hjb := Lib.hid hjb
      clear hjb
      refine wp_region_ext (by kernel_rfl) (by kernel_rfl) ?_
      repeat (go_big_quiet_step (fail))
      go_big_quiet_want
      with_reducible refine quiet_load_rng (b := ?b6) (off := ?o6) (ds := ?ds6) (vecAt V j).root.vals ?hx6 ?hr6 ?hu6 ?hd6 ?hi6 ?hk6
      case hx6 => rfl
      case hr6 => rintro _ ⟨y, rfl⟩; exact rangeAt_below HRt.out y.below lV4
      case hu6 => exact Try.underlying29
      case hd6 => rfl
      case hi6 => exact info29
      go_simp
      go_big_quiet_on
      repeat (go_big_quiet_step (fail))
      go_big_quiet_want
      with_reducible refine quiet_load_rng (b := ?b7) (off := ?o7) (ds := ?ds7) N.br.vals ?hx7 ?hr7 ?hu7 ?hd7 ?hi7 ?hk7
      case hx7 => rfl
      case hr7 => rintro _ ⟨y, rfl⟩; exact rangeAt_below HBr.out y.below lP4
      case hu7 => exact Try.underlying29
      case hd7 => rfl
      case hi7 => exact info29
      go_simp
      go_big_quiet_on
      repeat (go_big_quiet_step (fail))
      refine wpQuiet_nil ?_
      rintro W5 ⟨⟨_, hb6⟩, rfl⟩
      try simp only [] at *
      have HoV5 := Lib.hid (own_below HoV4.out hb6 (Nat.le_refl _))
      have HP5 := Lib.hid (Blk.below HP.out hb6 lP4)
      have hb7 := hb5.trans (hb6.mono hb5.size)
      have hc85 := laterc hc8 hb6 lP4
      clear hjust hjg HRt HBr HoV4 HP hb5 hb6 hc8 lV4 lP4
      go_wp2_with fail
      go_loopw [7, 9, 10, 11, 13, 51] (fun s _ _ _ _ i wr => ∃ (k : Nat) (b : Bool), k ≤ np ∧ i = .int .i64 k ∧ s = .bool b ∧ Hid (Seen (HitC l V j) k 0 0 b) ∧ Hid (jb = true → b = true) ∧ Hid (wr.ownsRow w.heap.size 48 21 (.slice (some ⟨gV, 0, none⟩) n capV) n (vrows V)) ∧ Hid (Blk wr PI 32 (N.vals (.slice A2 np cap2))) ∧ Below w.heap.size w wr) (fun _ _ _ _ _ i _ => np - (intOf i).toNat)
      case atStart => exact ⟨0, jb, by omega, rfl, rfl, Lib.hid (Seen.zero _ _), Lib.hid (fun h => h), HoV5, HP5, hb7⟩
      case round =>
        clear HoV5 HP5 hb7 hc85
        obtain ⟨k, b, hk, rfl, rfl, Hs, Hj, HoV, HP, hbr⟩ := hrel
        by_cases hlk : k < np
        · have hkx : k < N.ports.length := by rw [Hnp.out]; exact hlk
          obtain ⟨g2, o2, rfl, hg2, hc2⟩ := Hrow.out (by rw [List.length_map]; omega)
          have hc3 := hc2 k (by rw [List.length_map]; exact hkx)
          rw [List.getElem_map] at hc3
          have hM : memAt l j k = N.ports[k] := by
            unfold memAt
            rw [Hnk.out, portAt_eq hkx]
          generalize N.ports[k] = M at *
          have Hc3 := Lib.hid (rangeAt_below hc3 hbr hg2)
          have HM := Lib.hid hM
          clear hc2 hc3 hM
          go_upto_region 15 with (first
            | ((with_reducible refine wpList_load_rng (ty := 37) (b := ?b8) (o := ?o8) (ds := ?ds8) M.vals ?hx8 ?hB8 ?hu8 ?hd8 ?hi8 ?hk8)
               case hx8 => rfl
               case hB8 => exact Hc3.out
               case hu8 => exact Try.underlying37
               case hd8 => rfl
               case hi8 => exact info37)
            | ((with_reducible refine wpList_store_blk (ty := 37) (b := ?b9) (o := ?o9) (t := 37) zMem M.vals ?hx9 ?hy9 ?hB9 ?ho9 ?hi9 ?h19 ?hk9)
               case hx9 => rfl
               case hy9 => rfl
               case hB9 => exact Blk.new wr zMem 37
               case ho9 => exact Nat.le_refl _
               case hi9 => exact info37
               case h19 => exact (Mem.one _)
               intro W6 hBW6 hoW6))
          obtain ⟨hb4, lM⟩ := Only.fresh hoW6
          have HPM : Hid (Blk W6 wr.heap.size 37 M.vals) := hBW6
          have hb5 := hbr.trans (hb4.mono hbr.size)
          have HoV6 := Lib.hid (own_below HoV.out hb4 (Nat.le_refl _))
          have HP6 := Lib.hid (Blk.below HP.out hb4 HP.out.lt)
          generalize wr.heap.size = PM at *
          clear hBW6 hoW6 hb4 hbr Hc3 HoV HP
          go_wp2_with fail
          go_loopw [7, 10, 11, 13, 57] (fun s _ _ _ i wr => ∃ (q : Nat) (b : Bool), q ≤ n ∧ i = .int .i64 q ∧ s = .bool b ∧ Hid (Seen (HitC l V j) k q 0 b) ∧ Hid (jb = true → b = true) ∧ Hid (wr.ownsRow w.heap.size 48 21 (.slice (some ⟨gV, 0, none⟩) n capV) n (vrows V)) ∧ Hid (Blk wr PI 32 (N.vals (.slice (some ⟨g2, o2, none⟩) np cap2))) ∧ Hid (Blk wr PM 37 M.vals) ∧ Below w.heap.size w wr) (fun _ _ _ _ i _ => n - (intOf i).toNat)
          case atStart => exact ⟨0, b, by omega, rfl, rfl, Hs, Hj, HoV6, HP6, HPM, hb5⟩
          case round =>
            clear HoV6 HP6 HPM hb5 Hs Hj
            obtain ⟨q, b, hq, rfl, rfl, Hs, Hj, HoV, HP, HPM, hbr⟩ := hrel
            by_cases hlq : q < n
            · have hqx : q < L.length := by rw [HL.out]; exact hlq
              obtain ⟨g', o', eA, _, hc⟩ := Hl.out.row (by rw [List.length_map]; omega)
              injection eA with eA; injection eA with eA1 eA2
              subst eA1 eA2
              have hc1 := hc q (by rw [List.length_map]; exact hqx)
              rw [List.getElem_map] at hc1
              have hmm := Hl.out.mems L[q] (List.getElem_mem hqx)
              have hnq := Hnode.out q hqx
              generalize hN' : L[q].1 = N' at *
              generalize hS' : L[q].2 = sv' at *
              obtain ⟨A3, cap3, rfl, hcap3, hrow3⟩ := hmm
              generalize hnp' : N'.ports.length = np' at *
              have Hc1 := Lib.hid (rangeAt_below hc1 hbr hg)
              have Hrow3 := Lib.hid hrow3
              have Hnq := Lib.hid hnq
              have Hnp' := Lib.hid hnp'
              have hp8' : np' ≤ 8 := by
                have hx := Hna.out N' (by rw [← hnq]; unfold nodeAt; rw [List.getD_eq_getElem?_getD, List.getElem?_eq_getElem (by rw [Hll.out]; exact hlq)]; exact List.getElem_mem _)
                unfold netAt at hx
                simp only [Bool.and_eq_true, decide_eq_true_eq] at hx
                omega
              clear hc hc1 hN' hS' hrow3 hnq hnp'
              go_upto_region 18 with (first
                | ((with_reducible refine wpList_load_rng (ty := 32) (b := ?b10) (o := ?o10) (ds := ?ds10) (N'.vals (.slice A3 np' cap3)) ?hx10 ?hB10 ?hu10 ?hd10 ?hi10 ?hk10)
                   case hx10 => rfl
                   case hB10 => exact Hc1.out
                   case hu10 => exact Try.underlying32
                   case hd10 => rfl
                   case hi10 => exact info32)
                | ((with_reducible refine wpList_store_blk (ty := 32) (b := ?b11) (o := ?o11) (t := 32) zNode (N'.vals (.slice A3 np' cap3)) ?hx11 ?hy11 ?hB11 ?ho11 ?hi11 ?h111 ?hk11)
                   case hx11 => rfl
                   case hy11 => rfl
                   case hB11 => exact Blk.new wr zNode 32
                   case ho11 => exact Nat.le_refl _
                   case hi11 => exact info32
                   case h111 => exact (Node.one _ _ _ _)
                   intro W7 hBW7 hoW7))
              obtain ⟨hb4, lQ⟩ := Only.fresh hoW7
              have HPQ : Hid (Blk W7 wr.heap.size 32 (N'.vals (.slice A3 np' cap3))) := hBW7
              have hb5 := hbr.trans (hb4.mono hbr.size)
              have HoV7 := Lib.hid (own_below HoV.out hb4 (Nat.le_refl _))
              have HP7 := Lib.hid (Blk.below HP.out hb4 HP.out.lt)
              have HPM7 := Lib.hid (Blk.below HPM.out hb4 HPM.out.lt)
              have hc8 : W7.cell? ⟨wr.heap.size, 8, none⟩ = some (.slice A3 np' cap3) := HPQ.out.box.cell 8
              generalize wr.heap.size = PQ at *
              clear hBW7 hoW7 hb4 hbr Hc1 HoV HP HPM
              go_wp2_with fail
              go_loopw [7, 13, 65] (fun s _ i wr => ∃ (m : Nat) (b : Bool), m ≤ np' ∧ i = .int .i64 m ∧ s = .bool b ∧ Hid (Seen (HitC l V j) k q m b) ∧ Hid (jb = true → b = true) ∧ Hid (wr.ownsRow w.heap.size 48 21 (.slice (some ⟨gV, 0, none⟩) n capV) n (vrows V)) ∧ Hid (Blk wr PI 32 (N.vals (.slice (some ⟨g2, o2, none⟩) np cap2))) ∧ Hid (Blk wr PM 37 M.vals) ∧ Hid (Blk wr PQ 32 (N'.vals (.slice A3 np' cap3))) ∧ Below w.heap.size w wr) (fun _ _ i _ => np' - (intOf i).toNat)
              case atStart => exact ⟨0, b, by omega, rfl, rfl, Hs, Hj, HoV7, HP7, HPM7, HPQ, hb5⟩
              case round =>
                clear HoV7 HP7 HPM7 HPQ hb5 Hs Hj hc8
                obtain ⟨m, b, hm, rfl, rfl, Hs, Hj, HoV, HP, HPM, HPQ, hbr⟩ := hrel
                by_cases hlm : m < np'
                · have hmx : m < N'.ports.length := by rw [Hnp'.out]; exact hlm
                  obtain ⟨g3, o3, rfl, hg3, hc3⟩ := Hrow3.out (by rw [List.length_map]; omega)
                  have hc4 := hc3 m (by rw [List.length_map]; exact hmx)
                  rw [List.getElem_map] at hc4
                  have hM' : memAt l q m = N'.ports[m] := by
                    unfold memAt
                    rw [Hnq.out, portAt_eq hmx]
                  generalize N'.ports[m] = M' at *
                  have Hc4 := Lib.hid (rangeAt_below hc4 hbr hg3)
                  have HM' := Lib.hid hM'
                  clear hc3 hc4 hM'
                  go_upto_region 21 with (first
                    | ((with_reducible refine wpList_load_rng (ty := 37) (b := ?b12) (o := ?o12) (ds := ?ds12) M'.vals ?hx12 ?hB12 ?hu12 ?hd12 ?hi12 ?hk12)
                       case hx12 => rfl
                       case hB12 => exact Hc4.out
                       case hu12 => exact Try.underlying37
                       case hd12 => rfl
                       case hi12 => exact info37)
                    | ((with_reducible refine wpList_store_blk (ty := 37) (b := ?b13) (o := ?o13) (t := 37) zMem M'.vals ?hx13 ?hy13 ?hB13 ?ho13 ?hi13 ?h113 ?hk13)
                       case hx13 => rfl
                       case hy13 => rfl
                       case hB13 => exact Blk.new wr zMem 37
                       case ho13 => exact Nat.le_refl _
                       case hi13 => exact info37
                       case h113 => exact (Mem.one _)
                       intro W8 hBW8 hoW8))
                  obtain ⟨hb4, lM'⟩ := Only.fresh hoW8
                  have HPM' : Hid (Blk W8 wr.heap.size 37 M'.vals) := hBW8
                  have hb5 := hbr.trans (hb4.mono hbr.size)
                  have HoV8 := Lib.hid (own_below HoV.out hb4 (Nat.le_refl _))
                  have HP8 := Lib.hid (Blk.below HP.out hb4 HP.out.lt)
                  have HPM8 := Lib.hid (Blk.below HPM.out hb4 HPM.out.lt)
                  have HPQ8 := Lib.hid (Blk.below HPQ.out hb4 HPQ.out.lt)
                  have hl1 : W8.cell? ⟨PM, 3, none⟩ = some (.int .i64 M.lan) := HPM8.out.box.cell 3
                  have hl2 : W8.cell? ⟨wr.heap.size, 3, none⟩ = some (.int .i64 M'.lan) := HPM'.out.box.cell 3
                  generalize wr.heap.size = PM' at *
                  clear hBW8 hoW8 hb4 hbr Hc4 HoV HP HPM HPQ
                  by_cases hqj : q = j
                  · have Hs2 := Lib.hid (Hs.out.next (b' := b) (fun h => h) (fun hH => (hH.ne hqj).elim))
                    subst hqj
                    clear Hs hl1 hl2
                    go_wp2_with fail
                    go_roundw
                    case rel => exact ⟨m + 1, b, by omega, by go_num, rfl, Hs2, Hj, HoV8, HP8, HPM8, HPQ8, hb5⟩
                    case measure => simp [intOf]; omega
                  · have hqi : ((q : Int) = (j : Int)) ↔ False := ⟨fun h => hqj (by omega), fun h => h.elim⟩
                    have hq1 : ((q : Int) == (j : Int)) = false := by simp; omega
                    by_cases hlan : M'.lan = M.lan
                    · have hl3 : (M'.lan != M.lan) = false := by simp [hlan]
                      have hvj := own_at HoV8.out HVl.out hlj
                      have hvq := own_at HoV8.out HVl.out hlq
                      have hcj : W8.cell? ⟨gV, j * 21 + 8, none⟩ = some (.int .i64 (vecAt V j).cost) := hvj 8 _ rfl
                      have hcq : W8.cell? ⟨gV, q * 21 + 8, none⟩ = some (.int .i64 (vecAt V q).cost) := hvq 8 _ rfl
                      have hcM : W8.cell? ⟨PM, 2, none⟩ = some (.int .i64 M.cost) := HPM8.out.box.cell 2
                      have hbj := Hcst.out (netAt_ports Hna.out) j hlj
                      have hbq := Hcst.out (netAt_ports Hna.out) q hlq
                      have hpm := netAt_ports Hna.out j k (by rw [Hll.out]; exact hlj) (by rw [Hnk.out]; exact hkx)
                      rw [HM.out] at hpm
                      have hle : (vecAt V j).cost ≤ (vecAt V q).cost + M.cost := by
                        have := near_le (HSol.out (valid_of (by rw [Hll.out]; exact h12) (by rw [Hll.out]; exact Hok.out))) hjl (by rw [Hnk.out]; exact hkx) (by rw [Hll.out]; exact hlq : q < l.length) (by rw [Hnq.out]; exact hmx : m < (nodeAt l q).ports.length) hqj (by rw [HM'.out, HM.out]; exact hlan)
                        rw [HM.out] at this; exact this
                      have hwr : IntKind.i64.wrap ((vecAt V q).cost + M.cost) = (vecAt V q).cost + M.cost := IntWalk.i64_in _ (by omega)
                      have hgt : decide ((vecAt V q).cost + M.cost < (vecAt V j).cost) = false := by simp; omega
                      have HH : Hid ((vecAt V j).cost ≤ (vecAt V q).cost + M.cost) := Lib.hid hle
                      generalize hCJ : (vecAt V j).cost = CJ at *
                      generalize hCQ : (vecAt V q).cost = CQ at *
                      clear hvj hvq hpm hbj hbq hle
                      have HCJ := Lib.hid hCJ
                      have HCQ := Lib.hid hCQ
                      have lV8 : gV < W8.heap.size := by
                        obtain ⟨A5', cap5', e5, _, hA5, _⟩ := own_vecs HoV8.out HVl.out
                        injection e5 with e5a e5b e5c
                        obtain ⟨gV', e6, _, h7⟩ := hA5 (by omega)
                        rw [← e5a] at e6; injection e6 with e6; injection e6 with e6
                        rw [e6]; exact h7
                      have lPM8 : PM < W8.heap.size := HPM8.out.lt
                      clear hCJ hCQ
                      go_wp2_with fail
                      refine wp_region_ext (by kernel_rfl) (by kernel_rfl) ?_
                      repeat (go_big_quiet_step (fail))
                      refine wpQuiet_nil ?_
                      rintro W9 ⟨⟨_, hb6⟩, rfl⟩
                      try simp only [] at *
                      have HoV9 := Lib.hid (own_below HoV8.out hb6 (Nat.le_refl _))
                      have HP9 := Lib.hid (Blk.below HP8.out hb6 HP8.out.lt)
                      have HPM9 := Lib.hid (Blk.below HPM8.out hb6 HPM8.out.lt)
                      have HPQ9 := Lib.hid (Blk.below HPQ8.out hb6 HPQ8.out.lt)
                      have HPM'9 := Lib.hid (Blk.below HPM'.out hb6 HPM'.out.lt)
                      have hb7 := hb5.trans (hb6.mono hb5.size)
                      have hcj9 := laterc hcj hb6 lV8
                      have hcq9 := laterc hcq hb6 lV8
                      have hcM9 := laterc hcM hb6 lPM8
                      have lV9 : gV < W9.heap.size := Nat.lt_of_lt_of_le lV8 hb6.size
                      have lPM9 : PM < W9.heap.size := HPM9.out.lt
                      have lPM'9 : PM' < W9.heap.size := HPM'9.out.lt
                      have lPQ9 : PQ < W9.heap.size := HPQ9.out.lt
                      have hvj := own_at HoV9.out HVl.out hlj
                      have Rp := Lib.hid (rng_left (a := M.port.vals) HPM9.out.box.range)
                      have Rp' := Lib.hid (rng_left (a := M'.port.vals) HPM'9.out.box.range)
                      have Rb := Lib.hid (rng_left (a := N'.br.vals) HPQ9.out.box.range)
                      have Rat : Hid (W9.rangeAt gV (j * 21 + 19) (vecAt V j).at_.vals) := Lib.hid (rng_right (a := (vecAt V j).root.vals ++ [.int .i64 (vecAt V j).cost] ++ (vecAt V j).sender.vals ++ (vecAt V j).port.vals) (b := (vecAt V j).at_.vals) (by simpa [Vec.vals] using hvj))
                      have Rpt : Hid (W9.rangeAt gV (j * 21 + 17) (vecAt V j).port.vals) := Lib.hid (rng_left (b := (vecAt V j).at_.vals) (rng_right (a := (vecAt V j).root.vals ++ [.int .i64 (vecAt V j).cost] ++ (vecAt V j).sender.vals) (by simpa [Vec.vals] using hvj)))
                      have Rsd : Hid (W9.rangeAt gV (j * 21 + 9) (vecAt V j).sender.vals) := Lib.hid (rng_left (b := (vecAt V j).port.vals ++ (vecAt V j).at_.vals) (rng_right (a := (vecAt V j).root.vals ++ [.int .i64 (vecAt V j).cost]) (by simpa [Vec.vals] using hvj)))
                      clear hvj hcj hcq hcM lV8 lPM8 HoV8 HP8 HPM8 HPQ8 HPM' hb5 hb6 hgt hl1 hl2 hl3 hlan hqi hq1
                      have E1 : ∀ (W : World), (binOp .eql 35 (.agg M.port.vals.toArray) (.agg (vecAt V j).at_.vals.toArray)).run Try.prog W = .ok (.bool (decide (M.port = (vecAt V j).at_))) W := fun W => pt_eq _ _ W
                      have G1 : ∀ (x y : Operand) (W : World), (eqGuard .eql 35 x y (.agg M.port.vals.toArray) (.agg (vecAt V j).at_.vals.toArray)).run Try.prog W = .ok () W := fun x y W => pt_guard _ _ x y W
                      have E2 : ∀ (W : World), (binOp .eql 35 (.agg M'.port.vals.toArray) (.agg (vecAt V j).port.vals.toArray)).run Try.prog W = .ok (.bool (decide (M'.port = (vecAt V j).port))) W := fun W => pt_eq _ _ W
                      have G2 : ∀ (x y : Operand) (W : World), (eqGuard .eql 35 x y (.agg M'.port.vals.toArray) (.agg (vecAt V j).port.vals.toArray)).run Try.prog W = .ok () W := fun x y W => pt_guard _ _ x y W
                      have E3 : ∀ (W : World), (binOp .eql 29 (.agg N'.br.vals.toArray) (.agg (vecAt V j).sender.vals.toArray)).run Try.prog W = .ok (.bool (decide (N'.br = (vecAt V j).sender))) W := fun W => br_eq _ _ W
                      have G3 : ∀ (x y : Operand) (W : World), (eqGuard .eql 29 x y (.agg N'.br.vals.toArray) (.agg (vecAt V j).sender.vals.toArray)).run Try.prog W = .ok () W := fun x y W => br_guard .eql _ _ x y W
                      have hnx : HitC l V j k q m → (decide (M.port = (vecAt V j).at_) && (decide (M'.port = (vecAt V j).port) && (decide (N'.br = (vecAt V j).sender) && (CJ == CQ + M.cost)))) = true := fun hH => by
                        have h1 := hH.at_
                        have h2 := hH.port
                        have h3 := hH.sender
                        have h4 := hH.cost
                        rw [HM.out] at h1 h4
                        rw [HM'.out] at h2
                        rw [Hnq.out] at h3
                        rw [HCJ.out, HCQ.out] at h4
                        simp [h1, h2, h3, h4]
                      generalize decide (M.port = (vecAt V j).at_) = e1 at *
                      generalize decide (M'.port = (vecAt V j).port) = e2 at *
                      generalize decide (N'.br = (vecAt V j).sender) = e3 at *
                      generalize he4 : (CJ == CQ + M.cost) = e4 at *
                      have Hnx := Lib.hid hnx
                      clear hnx
                      have fin : ∀ b' : Bool, (b = true → b' = true) → ((e1 && (e2 && (e3 && e4))) = true → b' = true) → Hid (Seen (HitC l V j) k q (m + 1) b') ∧ Hid (jb = true → b' = true) := fun b' h1 h2 => ⟨Lib.hid (Hs.out.next h1 (fun hH => h2 (Hnx.out hH))), Lib.hid (fun h => h1 (Hj.out h))⟩
                      have Fin := Lib.hid fin
                      clear fin Hs Hj Hnx
                      go_wp2_with fail
                      cases b
                      case true =>
                        refine wp_region_ext (by kernel_rfl) (by kernel_rfl) ?_
                        repeat (go_big_quiet_step (fail))
                        refine wpQuiet_nil ?_
                        rintro W10 ⟨⟨_, hb8⟩, rfl⟩
                        try simp only [] at *
                        obtain ⟨Hs2, Hj2⟩ := Fin.out true (by simp) (by simp)
                        have HoV10 := Lib.hid (own_below HoV9.out hb8 (Nat.le_refl _))
                        have HP10 := Lib.hid (Blk.below HP9.out hb8 HP9.out.lt)
                        have HPM10 := Lib.hid (Blk.below HPM9.out hb8 HPM9.out.lt)
                        have HPQ10 := Lib.hid (Blk.below HPQ9.out hb8 HPQ9.out.lt)
                        have hb9 := hb7.trans (hb8.mono hb7.size)
                        clear hcj9 hcq9 hcM9 E1 E2 E3 G1 G2 G3 he4
                        go_wp2_with fail
                        go_roundw
                        case rel => exact ⟨m + 1, true, by omega, by go_num, rfl, Hs2, Hj2, HoV10, HP10, HPM10, HPQ10, hb9⟩
                        case measure => simp [intOf]; omega
                      case false =>
                        cases e1
                        case false =>
                          refine wp_region_ext (by kernel_rfl) (by kernel_rfl) ?_
                          repeat (go_big_quiet_step (fail))
                          go_big_quiet_want
                          with_reducible refine quiet_load_rng (b := ?b14) (off := ?o14) (ds := ?ds14) M.port.vals ?hx14 ?hr14 ?hu14 ?hd14 ?hi14 ?hk14
                          case hx14 => rfl
                          case hr14 => rintro _ ⟨y, rfl⟩; exact rangeAt_below Rp.out y.below lPM9
                          case hu14 => exact Try.underlying35
                          case hd14 => rfl
                          case hi14 => exact info35
                          go_simp
                          go_big_quiet_on
                          repeat (go_big_quiet_step (fail))
                          go_big_quiet_want
                          with_reducible refine quiet_load_rng (b := ?b15) (off := ?o15) (ds := ?ds15) (vecAt V j).at_.vals ?hx15 ?hr15 ?hu15 ?hd15 ?hi15 ?hk15
                          case hx15 => rfl
                          case hr15 => rintro _ ⟨y, rfl⟩; exact rangeAt_below Rat.out y.below lV9
                          case hu15 => exact Try.underlying35
                          case hd15 => rfl
                          case hi15 => exact info35
                          go_simp
                          go_big_quiet_on
                          repeat (go_big_quiet_step (fail))
                          refine wpQuiet_nil ?_
                          rintro W10 ⟨⟨_, hb8⟩, rfl⟩
                          try simp only [] at *
                          obtain ⟨Hs2, Hj2⟩ := Fin.out false (by simp) (by simp)
                          have HoV10 := Lib.hid (own_below HoV9.out hb8 (Nat.le_refl _))
                          have HP10 := Lib.hid (Blk.below HP9.out hb8 HP9.out.lt)
                          have HPM10 := Lib.hid (Blk.below HPM9.out hb8 HPM9.out.lt)
                          have HPQ10 := Lib.hid (Blk.below HPQ9.out hb8 HPQ9.out.lt)
                          have hb9 := hb7.trans (hb8.mono hb7.size)
                          clear hcj9 hcq9 hcM9 E1 E2 E3 G1 G2 G3 he4
                          go_wp2_with fail
                          go_roundw
                          case rel => exact ⟨m + 1, false, by omega, by go_num, rfl, Hs2, Hj2, HoV10, HP10, HPM10, HPQ10, hb9⟩
                          case measure => simp [intOf]; omega
                        case true =>
                          cases e2
                          case false =>
                            refine wp_region_ext (by kernel_rfl) (by kernel_rfl) ?_
                            repeat (go_big_quiet_step (fail))
                            go_big_quiet_want
                            with_reducible refine quiet_load_rng (b := ?b16) (off := ?o16) (ds := ?ds16) M.port.vals ?hx16 ?hr16 ?hu16 ?hd16 ?hi16 ?hk16
                            case hx16 => rfl
                            case hr16 => rintro _ ⟨y, rfl⟩; exact rangeAt_below Rp.out y.below lPM9
                            case hu16 => exact Try.underlying35
                            case hd16 => rfl
                            case hi16 => exact info35
                            go_simp
                            go_big_quiet_on
                            repeat (go_big_quiet_step (fail))
                            go_big_quiet_want
                            with_reducible refine quiet_load_rng (b := ?b17) (off := ?o17) (ds := ?ds17) (vecAt V j).at_.vals ?hx17 ?hr17 ?hu17 ?hd17 ?hi17 ?hk17
                            case hx17 => rfl
                            case hr17 => rintro _ ⟨y, rfl⟩; exact rangeAt_below Rat.out y.below lV9
                            case hu17 => exact Try.underlying35
                            case hd17 => rfl
                            case hi17 => exact info35
                            go_simp
                            go_big_quiet_on
                            repeat (go_big_quiet_step (fail))
                            go_big_quiet_want
                            with_reducible refine quiet_load_rng (b := ?b18) (off := ?o18) (ds := ?ds18) M'.port.vals ?hx18 ?hr18 ?hu18 ?hd18 ?hi18 ?hk18
                            case hx18 => rfl
                            case hr18 => rintro _ ⟨y, rfl⟩; exact rangeAt_below Rp'.out y.below lPM'9
                            case hu18 => exact Try.underlying35
                            case hd18 => rfl
                            case hi18 => exact info35
                            go_simp
                            go_big_quiet_on
                            repeat (go_big_quiet_step (fail))
                            go_big_quiet_want
                            with_reducible refine quiet_load_rng (b := ?b19) (off := ?o19) (ds := ?ds19) (vecAt V j).port.vals ?hx19 ?hr19 ?hu19 ?hd19 ?hi19 ?hk19
                            case hx19 => rfl
                            case hr19 => rintro _ ⟨y, rfl⟩; exact rangeAt_below Rpt.out y.below lV9
                            case hu19 => exact Try.underlying35
                            case hd19 => rfl
                            case hi19 => exact info35
                            go_simp
                            go_big_quiet_on
                            repeat (go_big_quiet_step (fail))
                            refine wpQuiet_nil ?_
                            rintro W10 ⟨⟨_, hb8⟩, rfl⟩
                            try simp only [] at *
                            obtain ⟨Hs2, Hj2⟩ := Fin.out false (by simp) (by simp)
                            have HoV10 := Lib.hid (own_below HoV9.out hb8 (Nat.le_refl _))
                            have HP10 := Lib.hid (Blk.below HP9.out hb8 HP9.out.lt)
                            have HPM10 := Lib.hid (Blk.below HPM9.out hb8 HPM9.out.lt)
                            have HPQ10 := Lib.hid (Blk.below HPQ9.out hb8 HPQ9.out.lt)
                            have hb9 := hb7.trans (hb8.mono hb7.size)
                            clear hcj9 hcq9 hcM9 E1 E2 E3 G1 G2 G3 he4
                            go_wp2_with fail
                            go_roundw
                            case rel => exact ⟨m + 1, false, by omega, by go_num, rfl, Hs2, Hj2, HoV10, HP10, HPM10, HPQ10, hb9⟩
                            case measure => simp [intOf]; omega
                          case true =>
                            cases e3
                            case false =>
                              refine wp_region_ext (by kernel_rfl) (by kernel_rfl) ?_
                              repeat (go_big_quiet_step (fail))
                              go_big_quiet_want
                              with_reducible refine quiet_load_rng (b := ?b20) (off := ?o20) (ds := ?ds20) M.port.vals ?hx20 ?hr20 ?hu20 ?hd20 ?hi20 ?hk20
                              case hx20 => rfl
                              case hr20 => rintro _ ⟨y, rfl⟩; exact rangeAt_below Rp.out y.below lPM9
                              case hu20 => exact Try.underlying35
                              case hd20 => rfl
                              case hi20 => exact info35
                              go_simp
                              go_big_quiet_on
                              repeat (go_big_quiet_step (fail))
                              go_big_quiet_want
                              with_reducible refine quiet_load_rng (b := ?b21) (off := ?o21) (ds := ?ds21) (vecAt V j).at_.vals ?hx21 ?hr21 ?hu21 ?hd21 ?hi21 ?hk21
                              case hx21 => rfl
                              case hr21 => rintro _ ⟨y, rfl⟩; exact rangeAt_below Rat.out y.below lV9
                              case hu21 => exact Try.underlying35
                              case hd21 => rfl
                              case hi21 => exact info35
                              go_simp
                              go_big_quiet_on
                              repeat (go_big_quiet_step (fail))
                              go_big_quiet_want
                              with_reducible refine quiet_load_rng (b := ?b22) (off := ?o22) (ds := ?ds22) M'.port.vals ?hx22 ?hr22 ?hu22 ?hd22 ?hi22 ?hk22
                              case hx22 => rfl
                              case hr22 => rintro _ ⟨y, rfl⟩; exact rangeAt_below Rp'.out y.below lPM'9
                              case hu22 => exact Try.underlying35
                              case hd22 => rfl
                              case hi22 => exact info35
                              go_simp
                              go_big_quiet_on
                              repeat (go_big_quiet_step (fail))
                              go_big_quiet_want
                              with_reducible refine quiet_load_rng (b := ?b23) (off := ?o23) (ds := ?ds23) (vecAt V j).port.vals ?hx23 ?hr23 ?hu23 ?hd23 ?hi23 ?hk23
                              case hx23 => rfl
                              case hr23 => rintro _ ⟨y, rfl⟩; exact rangeAt_below Rpt.out y.below lV9
                              case hu23 => exact Try.underlying35
                              case hd23 => rfl
                              case hi23 => exact info35
                              go_simp
                              go_big_quiet_on
                              repeat (go_big_quiet_step (fail))
                              go_big_quiet_want
                              with_reducible refine quiet_load_rng (b := ?b24) (off := ?o24) (ds := ?ds24) N'.br.vals ?hx24 ?hr24 ?hu24 ?hd24 ?hi24 ?hk24
                              case hx24 => rfl
                              case hr24 => rintro _ ⟨y, rfl⟩; exact rangeAt_below Rb.out y.below lPQ9
                              case hu24 => exact Try.underlying29
                              case hd24 => rfl
                              case hi24 => exact info29
                              go_simp
                              go_big_quiet_on
                              repeat (go_big_quiet_step (fail))
                              go_big_quiet_want
                              with_reducible refine quiet_load_rng (b := ?b25) (off := ?o25) (ds := ?ds25) (vecAt V j).sender.vals ?hx25 ?hr25 ?hu25 ?hd25 ?hi25 ?hk25
                              case hx25 => rfl
                              case hr25 => rintro _ ⟨y, rfl⟩; exact rangeAt_below Rsd.out y.below lV9
                              case hu25 => exact Try.underlying29
                              case hd25 => rfl
                              case hi25 => exact info29
                              go_simp
                              go_big_quiet_on
                              repeat (go_big_quiet_step (fail))
                              refine wpQuiet_nil ?_
                              rintro W10 ⟨⟨_, hb8⟩, rfl⟩
                              try simp only [] at *
                              obtain ⟨Hs2, Hj2⟩ := Fin.out false (by simp) (by simp)
                              have HoV10 := Lib.hid (own_below HoV9.out hb8 (Nat.le_refl _))
                              have HP10 := Lib.hid (Blk.below HP9.out hb8 HP9.out.lt)
                              have HPM10 := Lib.hid (Blk.below HPM9.out hb8 HPM9.out.lt)
                              have HPQ10 := Lib.hid (Blk.below HPQ9.out hb8 HPQ9.out.lt)
                              have hb9 := hb7.trans (hb8.mono hb7.size)
                              clear hcj9 hcq9 hcM9 E1 E2 E3 G1 G2 G3 he4
                              go_wp2_with fail
                              go_roundw
                              case rel => exact ⟨m + 1, false, by omega, by go_num, rfl, Hs2, Hj2, HoV10, HP10, HPM10, HPQ10, hb9⟩
                              case measure => simp [intOf]; omega
                            case true =>
                              cases e4
                              case false =>
                                refine wp_region_ext (by kernel_rfl) (by kernel_rfl) ?_
                                repeat (go_big_quiet_step (fail))
                                go_big_quiet_want
                                with_reducible refine quiet_load_rng (b := ?b26) (off := ?o26) (ds := ?ds26) M.port.vals ?hx26 ?hr26 ?hu26 ?hd26 ?hi26 ?hk26
                                case hx26 => rfl
                                case hr26 => rintro _ ⟨y, rfl⟩; exact rangeAt_below Rp.out y.below lPM9
                                case hu26 => exact Try.underlying35
                                case hd26 => rfl
                                case hi26 => exact info35
                                go_simp
                                go_big_quiet_on
                                repeat (go_big_quiet_step (fail))
                                go_big_quiet_want
                                with_reducible refine quiet_load_rng (b := ?b27) (off := ?o27) (ds := ?ds27) (vecAt V j).at_.vals ?hx27 ?hr27 ?hu27 ?hd27 ?hi27 ?hk27
                                case hx27 => rfl
                                case hr27 => rintro _ ⟨y, rfl⟩; exact rangeAt_below Rat.out y.below lV9
                                case hu27 => exact Try.underlying35
                                case hd27 => rfl
                                case hi27 => exact info35
                                go_simp
                                go_big_quiet_on
                                repeat (go_big_quiet_step (fail))
                                go_big_quiet_want
                                with_reducible refine quiet_load_rng (b := ?b28) (off := ?o28) (ds := ?ds28) M'.port.vals ?hx28 ?hr28 ?hu28 ?hd28 ?hi28 ?hk28
                                case hx28 => rfl
                                case hr28 => rintro _ ⟨y, rfl⟩; exact rangeAt_below Rp'.out y.below lPM'9
                                case hu28 => exact Try.underlying35
                                case hd28 => rfl
                                case hi28 => exact info35
                                go_simp
                                go_big_quiet_on
                                repeat (go_big_quiet_step (fail))
                                go_big_quiet_want
                                with_reducible refine quiet_load_rng (b := ?b29) (off := ?o29) (ds := ?ds29) (vecAt V j).port.vals ?hx29 ?hr29 ?hu29 ?hd29 ?hi29 ?hk29
                                case hx29 => rfl
                                case hr29 => rintro _ ⟨y, rfl⟩; exact rangeAt_below Rpt.out y.below lV9
                                case hu29 => exact Try.underlying35
                                case hd29 => rfl
                                case hi29 => exact info35
                                go_simp
                                go_big_quiet_on
                                repeat (go_big_quiet_step (fail))
                                go_big_quiet_want
                                with_reducible refine quiet_load_rng (b := ?b30) (off := ?o30) (ds := ?ds30) N'.br.vals ?hx30 ?hr30 ?hu30 ?hd30 ?hi30 ?hk30
                                case hx30 => rfl
                                case hr30 => rintro _ ⟨y, rfl⟩; exact rangeAt_below Rb.out y.below lPQ9
                                case hu30 => exact Try.underlying29
                                case hd30 => rfl
                                case hi30 => exact info29
                                go_simp
                                go_big_quiet_on
                                repeat (go_big_quiet_step (fail))
                                go_big_quiet_want
                                with_reducible refine quiet_load_rng (b := ?b31) (off := ?o31) (ds := ?ds31) (vecAt V j).sender.vals ?hx31 ?hr31 ?hu31 ?hd31 ?hi31 ?hk31
                                case hx31 => rfl
                                case hr31 => rintro _ ⟨y, rfl⟩; exact rangeAt_below Rsd.out y.below lV9
                                case hu31 => exact Try.underlying29
                                case hd31 => rfl
                                case hi31 => exact info29
                                go_simp
                                go_big_quiet_on
                                repeat (go_big_quiet_step (fail))
                                refine wpQuiet_nil ?_
                                rintro W10 ⟨⟨_, hb8⟩, rfl⟩
                                try simp only [] at *
                                obtain ⟨Hs2, Hj2⟩ := Fin.out false (by simp) (by simp)
                                have HoV10 := Lib.hid (own_below HoV9.out hb8 (Nat.le_refl _))
                                have HP10 := Lib.hid (Blk.below HP9.out hb8 HP9.out.lt)
                                have HPM10 := Lib.hid (Blk.below HPM9.out hb8 HPM9.out.lt)
                                have HPQ10 := Lib.hid (Blk.below HPQ9.out hb8 HPQ9.out.lt)
                                have hb9 := hb7.trans (hb8.mono hb7.size)
                                clear hcj9 hcq9 hcM9 E1 E2 E3 G1 G2 G3 he4
                                go_wp2_with fail
                                go_roundw
                                case rel => exact ⟨m + 1, false, by omega, by go_num, rfl, Hs2, Hj2, HoV10, HP10, HPM10, HPQ10, hb9⟩
                                case measure => simp [intOf]; omega
                              case true =>
                                refine wp_region_ext (by kernel_rfl) (by kernel_rfl) ?_
                                repeat (go_big_quiet_step (fail))
                                go_big_quiet_want
                                with_reducible refine quiet_load_rng (b := ?b32) (off := ?o32) (ds := ?ds32) M.port.vals ?hx32 ?hr32 ?hu32 ?hd32 ?hi32 ?hk32
                                case hx32 => rfl
                                case hr32 => rintro _ ⟨y, rfl⟩; exact rangeAt_below Rp.out y.below lPM9
                                case hu32 => exact Try.underlying35
                                case hd32 => rfl
                                case hi32 => exact info35
                                go_simp
                                go_big_quiet_on
                                repeat (go_big_quiet_step (fail))
                                go_big_quiet_want
                                with_reducible refine quiet_load_rng (b := ?b33) (off := ?o33) (ds := ?ds33) (vecAt V j).at_.vals ?hx33 ?hr33 ?hu33 ?hd33 ?hi33 ?hk33
                                case hx33 => rfl
                                case hr33 => rintro _ ⟨y, rfl⟩; exact rangeAt_below Rat.out y.below lV9
                                case hu33 => exact Try.underlying35
                                case hd33 => rfl
                                case hi33 => exact info35
                                go_simp
                                go_big_quiet_on
                                repeat (go_big_quiet_step (fail))
                                go_big_quiet_want
                                with_reducible refine quiet_load_rng (b := ?b34) (off := ?o34) (ds := ?ds34) M'.port.vals ?hx34 ?hr34 ?hu34 ?hd34 ?hi34 ?hk34
                                case hx34 => rfl
                                case hr34 => rintro _ ⟨y, rfl⟩; exact rangeAt_below Rp'.out y.below lPM'9
                                case hu34 => exact Try.underlying35
                                case hd34 => rfl
                                case hi34 => exact info35
                                go_simp
                                go_big_quiet_on
                                repeat (go_big_quiet_step (fail))
                                go_big_quiet_want
                                with_reducible refine quiet_load_rng (b := ?b35) (off := ?o35) (ds := ?ds35) (vecAt V j).port.vals ?hx35 ?hr35 ?hu35 ?hd35 ?hi35 ?hk35
                                case hx35 => rfl
                                case hr35 => rintro _ ⟨y, rfl⟩; exact rangeAt_below Rpt.out y.below lV9
                                case hu35 => exact Try.underlying35
                                case hd35 => rfl
                                case hi35 => exact info35
                                go_simp
                                go_big_quiet_on
                                repeat (go_big_quiet_step (fail))
                                go_big_quiet_want
                                with_reducible refine quiet_load_rng (b := ?b36) (off := ?o36) (ds := ?ds36) N'.br.vals ?hx36 ?hr36 ?hu36 ?hd36 ?hi36 ?hk36
                                case hx36 => rfl
                                case hr36 => rintro _ ⟨y, rfl⟩; exact rangeAt_below Rb.out y.below lPQ9
                                case hu36 => exact Try.underlying29
                                case hd36 => rfl
                                case hi36 => exact info29
                                go_simp
                                go_big_quiet_on
                                repeat (go_big_quiet_step (fail))
                                go_big_quiet_want
                                with_reducible refine quiet_load_rng (b := ?b37) (off := ?o37) (ds := ?ds37) (vecAt V j).sender.vals ?hx37 ?hr37 ?hu37 ?hd37 ?hi37 ?hk37
                                case hx37 => rfl
                                case hr37 => rintro _ ⟨y, rfl⟩; exact rangeAt_below Rsd.out y.below lV9
                                case hu37 => exact Try.underlying29
                                case hd37 => rfl
                                case hi37 => exact info29
                                go_simp
                                go_big_quiet_on
                                repeat (go_big_quiet_step (fail))
                                refine wpQuiet_nil ?_
                                rintro W10 ⟨⟨_, hb8⟩, rfl⟩
                                try simp only [] at *
                                obtain ⟨Hs2, Hj2⟩ := Fin.out true (by simp) (by simp)
                                have HoV10 := Lib.hid (own_below HoV9.out hb8 (Nat.le_refl _))
                                have HP10 := Lib.hid (Blk.below HP9.out hb8 HP9.out.lt)
                                have HPM10 := Lib.hid (Blk.below HPM9.out hb8 HPM9.out.lt)
                                have HPQ10 := Lib.hid (Blk.below HPQ9.out hb8 HPQ9.out.lt)
                                have hb9 := hb7.trans (hb8.mono hb7.size)
                                clear hcj9 hcq9 hcM9 E1 E2 E3 G1 G2 G3 he4
                                go_wp2_with fail
                                go_roundw
                                case rel => exact ⟨m + 1, true, by omega, by go_num, rfl, Hs2, Hj2, HoV10, HP10, HPM10, HPQ10, hb9⟩
                                case measure => simp [intOf]; omega
                    · have Hs2 := Lib.hid (Hs.out.next (b' := b) (fun h => h) (fun hH => (hlan (by rw [← HM'.out, ← HM.out]; exact hH.lan)).elim))
                      have hl3 : (M'.lan != M.lan) = true := by simp [hlan]
                      clear Hs hlan hqi
                      go_wp2_with fail
                      go_roundw
                      case rel => exact ⟨m + 1, b, by omega, by go_num, rfl, Hs2, Hj, HoV8, HP8, HPM8, HPQ8, hb5⟩
                      case measure => simp [intOf]; omega
                · have hmn : m = np' := by omega
                  have Hs2 := Lib.hid (Hs.out.up (fun m' hH => by have := hH.hm; rw [Hnq.out, Hnp'.out] at this; omega))
                  clear Hs HPQ
                  go_wp2_with fail
                  go_roundw
                  case rel => exact ⟨q + 1, b, by omega, by go_num, rfl, Hs2, Hj, HoV, HP, HPM, hbr⟩
                  case measure => simp [intOf]; omega
            · have hqn : q = n := by omega
              have Hs2 := Lib.hid (Hs.out.top (fun j' m' hH => by have := hH.hj; rw [Hll.out] at this; omega))
              clear Hs HPM
              go_wp2_with fail
              go_roundw
              case rel => exact ⟨k + 1, b, by omega, by go_num, rfl, Hs2, Hj, HoV, HP, hbr⟩
              case measure => simp [intOf]; omega
        · have hkn : k = np := by omega
          have hbt : b = true := by
            have hv := valid_of (by rw [Hll.out]; exact h12) (by rw [Hll.out]; exact Hok.out)
            by_cases hr : (vecAt V j).root = brAt l j
            · apply Hj.out
              rw [← Hjb.out, decide_eq_true_eq, hr]
              unfold brAt
              rw [Hnk.out]
            · obtain ⟨k', j', m', hH⟩ := hit_some hv (HSol.out hv) hjl hr
              have := hH.hk
              rw [Hnk.out, Hnp.out] at this
              exact Hs.out k' j' m' (.inl (by omega)) hH
          subst hbt
          clear Hs Hj HP
          go_wp2_with fail
          go_roundw
          case rel => exact ⟨j + 1, by omega, by go_num, HoV, hbr⟩
          case measure => simp [intOf]; omega
    · have hjn : j = n := by omega
      subst hjn
      go_wp2_with fail
      go_ret
      exact ⟨rfl, hbr⟩
end Go.Proofs.Ythpgdipcdllfdaa

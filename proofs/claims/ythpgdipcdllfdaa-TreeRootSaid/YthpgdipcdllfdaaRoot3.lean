/- TreeRoot: the walk. -/
import Derived.Test.YthpgdipcdllfdaaRoot2
import Derived.Test.YthpgdipcdllfdaaOpenN
namespace Go.Proofs.Ythpgdipcdllfdaa
open Go.RowKit
set_option maxRecDepth 100000 in
set_option maxHeartbeats 16000000 in
theorem treeRoot_any (L : List (Node × Value)) (A : Option Addr) (n cap : Nat) (hL : L.length = n) (hn : n ≤ 9223372036854775807) (hcap : n ≤ cap) (w : World) (hl : NodesIn w w.heap.size A L) :
    Calls Try.prog 9 #[.slice A n cap] w fun e w' => e = .returned (.bool true) ∧ Below w.heap.size w w' := by
  have hG := grown_any w
  have hN : ∀ W, Below w.heap.size w W → Calls Try.prog 15 #[.slice A n cap] W (NetsPost W (L.map (·.1))) := fun W hb => nets_any L A n cap hL hn hcap W ((hl.below hb (Nat.le_refl _)).imp hb.size)
  have hS : ∀ W, Below w.heap.size w W → n ≤ 12 → okTo (L.map (·.1)) n = true → PortsOk (L.map (·.1)) → Calls Try.prog 20 #[.slice A n cap] W (SolPost W (solveM (L.map (·.1)))) := fun W hb h12 hok hp =>
    solve_any L A n cap hL h12 hcap W ((hl.below hb (Nat.le_refl _)).imp hb.size) hok hp
  have hf1 : ∀ (args : Array Value) (W : World), (callFunc 24 args).run Try.prog W = .ok (.enter 24 args) W := fun args W => by kernel_rfl
  have hM : ∀ W, Below w.heap.size w W → n ≤ 12 → validNet (L.map (·.1)) = true → Calls Try.prog 23 #[.slice A n cap, .func (.func 24) #[] #[]] W (RoomPost W (L.map (·.1)) (fun _ _ => true)) := fun W hb h12 hv =>
    rooms_any L A n cap _ _ _ hL h12 hcap W ((hl.below hb (Nat.le_refl _)).imp hb.size) hv hf1 (fun i k W' _ _ _ => always_any i k W')
  have HG := Lib.hid hG
  have HN := Lib.hid hN
  have HS := Lib.hid hS
  have HM := Lib.hid hM
  have HL := Lib.hid hL
  have Hl := Lib.hid hl
  have hll : (L.map (·.1)).length = n := by rw [List.length_map]; exact hL
  have Hll := Lib.hid hll
  have hnode : ∀ j (hj : j < L.length), nodeAt (L.map (·.1)) j = L[j].1 := fun j hj => by
    unfold nodeAt
    rw [List.getD_eq_getElem?_getD, List.getElem?_map, List.getElem?_eq_getElem hj]; rfl
  have Hnode := Lib.hid hnode
  generalize hl' : L.map (·.1) = l at *
  have hvl : (solveM l).length = n := by unfold solveM; rw [rounds_len, hll]
  have hsol : validNet l = true → Sol l (solveM l) := fun hv => sol_solve hv
  have hrm : validNet l = true → ∀ i j, i < n → j < n → (roomsM l (fun _ _ => true)).getD i 0 = (roomsM l (fun _ _ => true)).getD j 0 → (vecAt (solveM l) i).root = (vecAt (solveM l) j).root := fun hv i j hi hj e =>
    room_root hv (hsol hv) (by omega) (by omega) e
  generalize solveM l = V at *
  have HVl := Lib.hid hvl
  have HSol := Lib.hid hsol
  have Hrm := Lib.hid hrm
  clear hG hN hS hM hL hl hll hnode hl' hvl hsol hrm hf1
  go_enter Try.func9, Try.ntmps9
  go_upto_region 3 with (first
    | ((with_reducible refine HG.out.mono ?_)
       rintro e w1 ⟨rfl, hb1⟩
       skip)
    )
  have HN1 := Lib.hid (HN.out w1 hb1)
  go_upto_region 9 with (first
    | ((with_reducible refine HN1.out.mono ?_)
       rintro e w2 ⟨b, rfl, hyes, hb2⟩
       cases b
       rotate_left
       obtain ⟨h12, hok, hna⟩ := hyes rfl
       have hv := valid_of h12 hok
       rw [Hll.out] at h12 hok
       have HS2 := HS.out w2 (hb1.trans (hb2.mono hb1.size)) h12 hok (netAt_ports hna)
       have Hv := Lib.hid hv
       clear hv)
    | ((with_reducible refine HS2.mono ?_)
       rintro e w3 ⟨v, rfl, hown, hb3⟩
       rw [HVl.out] at hown
       have hVA := vecs_at hown HVl.out
       obtain ⟨AV, capV, rfl, hcapV, -⟩ := id hVA
       have hb3' := (hb1.trans (hb2.mono hb1.size)).trans (hb3.mono (hb1.trans (hb2.mono hb1.size)).size)
       have HVA := Lib.hid hVA
       clear hown hVA
       have HM3 := Lib.hid (HM.out w3 hb3' h12 Hv.out))
    | ((with_reducible refine HM3.out.mono ?_)
       rintro e w4 ⟨gr, cr, rfl, hcr, hgr0, hgr, hrc, hb4⟩
       rw [Hll.out] at hrc hcr)
    )
  rotate_left
  · go_ret
    exact ⟨rfl, hb1.trans (hb2.mono hb1.size)⟩
  have hb5 : Below w.heap.size w w4 := hb3'.trans (hb4.mono hb3'.size)
  have HVA4 := Lib.hid (HVA.out.below hb4)
  have Hl4 := Lib.hid (Hl.out.below hb5 (Nat.le_refl _))
  have Hrc := Lib.hid hrc
  have HB4 : Hid (Below w4.heap.size w4 w4) := Lib.hid (Below.refl _ _)
  have Hll2 := Lib.hid Hll.out
  clear hna hyes HS2 HVA HG HN HN1 HS HM HM3 hb1 hb2 hb3 hb4 hb3' hok hrc hgr0
  rw [Hll.out]
  go_wp2_with fail
  go_loopw [6, 7, 31, 36] (fun _ _ i _ wr => ∃ j : Nat, j ≤ n ∧ i = .int .i64 j ∧ Hid (Below w4.heap.size w4 wr)) (fun _ _ i _ _ => n - (intOf i).toNat)
  case atStart => exact ⟨0, by omega, rfl, HB4⟩
  case round =>
    clear HB4
    obtain ⟨j, hj, rfl, HBr⟩ := hrel
    by_cases hlj : j < n
    · have hjx : j < L.length := by rw [HL.out]; exact hlj
      obtain ⟨g, o, rfl, hg, hc⟩ := Hl4.out.row (by rw [List.length_map]; omega)
      have hc1 := hc j (by rw [List.length_map]; exact hjx)
      rw [List.getElem_map] at hc1
      have hnk := Hnode.out j hjx
      generalize hN : L[j].1 = N at *
      generalize hS : L[j].2 = sv at *
      obtain ⟨AV', capV', eV, _, hVr⟩ := HVA4.out
      injection eV with eV1 eV2 eV3
      subst eV1 eV3
      obtain ⟨gV, rfl, hgV, hVi⟩ := hVr (by omega)
      have hVj := hVi j hlj
      have hgw : g < w4.heap.size := by have := hb5.size; omega
      have HVi := Lib.hid hVi
      have HVj := Lib.hid hVj
      have Hc1 := Lib.hid hc1
      have Hnk := Lib.hid hnk
      have hrj := Hrc.out j (by omega)
      have Hrj := Lib.hid hrj
      have Hcq := Lib.hid hc
      clear hc hc1 hN hS hnk hVj hVi hVr hrj
      go_wp2_with fail
      go_loopw [7, 36] (fun _ i wr => ∃ q : Nat, q ≤ n ∧ i = .int .i64 q ∧ Hid (Below w4.heap.size w4 wr)) (fun _ i _ => n - (intOf i).toNat)
      case atStart => exact ⟨0, by omega, rfl, HBr⟩
      case round =>
        clear HBr
        obtain ⟨q, hq, rfl, HBr⟩ := hrel
        by_cases hlq : q < n
        · have hqx : q < L.length := by rw [HL.out]; exact hlq
          have hc2 := Hcq.out q (by rw [List.length_map]; exact hqx)
          rw [List.getElem_map] at hc2
          have hnq := Hnode.out q hqx
          generalize hN' : L[q].1 = N' at *
          generalize hS' : L[q].2 = sv' at *
          have hx := laterc Hrj.out HBr.out hgr
          have hy := laterc (Hrc.out q (by omega)) HBr.out hgr
          have hrmq := Hrm.out Hv.out j q hlj hlq
          generalize (roomsM l fun _ _ => true).getD j 0 = x at *
          generalize (roomsM l fun _ _ => true).getD q 0 = y at *
          have lgr : gr < wr.heap.size := Nat.lt_of_lt_of_le hgr HBr.out.size
          have lgV : gV < wr.heap.size := Nat.lt_of_lt_of_le hgV HBr.out.size
          have lg : g < wr.heap.size := Nat.lt_of_lt_of_le hgw HBr.out.size
          by_cases hxy : x = y
          · have hroot := hrmq hxy
            have hless : lessB N'.br (vecAt V j).root = false := by
              rw [hroot]
              have := own_le (HSol.out Hv.out) (i := q) (by rw [Hll.out]; exact hlq)
              unfold brAt at this
              rw [hnq] at this
              exact this
            have R1 := Lib.hid (rng_left (a := N'.br.vals) (b := [sv']) (rangeAt_below hc2 HBr.out hgw))
            have R2 := Lib.hid (rng_left (a := (vecAt V j).root.vals) (rangeAt_below HVj.out HBr.out hgV))
            have R3 := Lib.hid (rng_left (a := (vecAt V q).root.vals) (rangeAt_below (HVi.out q hlq) HBr.out hgV))
            have C1 : Hid (∀ W, Calls Try.prog 27 #[.agg N'.br.vals.toArray, .agg (vecAt V j).root.vals.toArray] W fun e w' => e = .returned (.bool false) ∧ Below W.heap.size W w') := Lib.hid (fun W => by
              have := less_any N'.br (vecAt V j).root W
              rw [hless] at this; exact this)
            have E1 : ∀ (W : World), (binOp .neq 29 (.agg (vecAt V j).root.vals.toArray) (.agg (vecAt V q).root.vals.toArray)).run Try.prog W = .ok (.bool false) W := fun W => by
              have := br_neq (vecAt V j).root (vecAt V q).root W
              rw [decide_eq_true hroot] at this; exact this
            have G1 : ∀ (x y : Operand) (W : World), (eqGuard .neq 29 x y (.agg (vecAt V j).root.vals.toArray) (.agg (vecAt V q).root.vals.toArray)).run Try.prog W = .ok () W := fun x y W => br_guard .neq _ _ x y W
            have hxx : (y == y) = true := by simp
            subst hxy
            clear hc2 hrmq hroot hless hnq
            go_wp2_with fail
            refine wp_region_ext (by kernel_rfl) (by kernel_rfl) ?_
            repeat (go_big_quiet_step (fail))
            go_big_quiet_want
            with_reducible refine quiet_load_rng (b := ?b5) (off := ?o5) (ds := ?ds5) N'.br.vals ?hx5 ?hr5 ?hu5 ?hd5 ?hi5 ?hk5
            case hx5 => rfl
            case hr5 => rintro _ ⟨y, rfl⟩; exact rangeAt_below R1.out y.below lg
            case hu5 => exact Try.underlying29
            case hd5 => rfl
            case hi5 => exact info29
            go_simp
            go_big_quiet_on
            repeat (go_big_quiet_step (fail))
            go_big_quiet_want
            with_reducible refine quiet_load_rng (b := ?b6) (off := ?o6) (ds := ?ds6) (vecAt V j).root.vals ?hx6 ?hr6 ?hu6 ?hd6 ?hi6 ?hk6
            case hx6 => rfl
            case hr6 => rintro _ ⟨y, rfl⟩; exact rangeAt_below R2.out y.below lgV
            case hu6 => exact Try.underlying29
            case hd6 => rfl
            case hi6 => exact info29
            go_simp
            go_big_quiet_on
            repeat (go_big_quiet_step (fail))
            go_big_quiet_step ((go_at_call 27; exact Calls.ext _ (C1.out _)))
            repeat (go_big_quiet_step (fail))
            go_big_quiet_want
            with_reducible refine quiet_load_rng (b := ?b7) (off := ?o7) (ds := ?ds7) (vecAt V j).root.vals ?hx7 ?hr7 ?hu7 ?hd7 ?hi7 ?hk7
            case hx7 => rfl
            case hr7 => rintro _ ⟨y, rfl⟩; exact rangeAt_below R2.out y.below lgV
            case hu7 => exact Try.underlying29
            case hd7 => rfl
            case hi7 => exact info29
            go_simp
            go_big_quiet_on
            repeat (go_big_quiet_step (fail))
            go_big_quiet_want
            with_reducible refine quiet_load_rng (b := ?b8) (off := ?o8) (ds := ?ds8) (vecAt V q).root.vals ?hx8 ?hr8 ?hu8 ?hd8 ?hi8 ?hk8
            case hx8 => rfl
            case hr8 => rintro _ ⟨y, rfl⟩; exact rangeAt_below R3.out y.below lgV
            case hu8 => exact Try.underlying29
            case hd8 => rfl
            case hi8 => exact info29
            go_simp
            go_big_quiet_on
            repeat (go_big_quiet_step (fail))
            refine wpQuiet_nil ?_
            rintro W12 ⟨⟨_, hb9⟩, rfl⟩
            try simp only [] at *
            have HB12 := Lib.hid (HBr.out.trans (hb9.mono HBr.out.size))
            clear hx hy HBr hb9 R1 R2 R3 C1 E1 G1 hxx lgr lgV lg
            go_wp2_with fail
            go_roundw
            case rel => exact ⟨q + 1, by omega, by go_num, HB12⟩
            case measure => simp [intOf]; omega
          · have hxy2 : (x == y) = false := by simpa using hxy
            clear hc2 hrmq hnq
            go_wp2_with fail
            refine wp_region_ext (by kernel_rfl) (by kernel_rfl) ?_
            repeat (go_big_quiet_step (fail))
            refine wpQuiet_nil ?_
            rintro W12 ⟨⟨_, hb9⟩, rfl⟩
            try simp only [] at *
            have HB12 := Lib.hid (HBr.out.trans (hb9.mono HBr.out.size))
            clear hx hy HBr hb9 hxy2 hxy lgr lgV lg
            go_wp2_with fail
            go_roundw
            case rel => exact ⟨q + 1, by omega, by go_num, HB12⟩
            case measure => simp [intOf]; omega
        · have hqn : q = n := by omega
          subst hqn
          have hor : (decide ((vecAt V j).root = N.br) = true ∧ (vecAt V j).cost = 0) ∨ (decide ((vecAt V j).root = N.br) = false ∧ ((vecAt V j).cost == 0) = false) := by
            have h1 := cost_zero Hv.out (HSol.out Hv.out) (i := j) (by rw [Hll.out]; exact hlj)
            have hbr : brAt l j = N.br := by unfold brAt; rw [Hnk.out]
            rw [hbr] at h1
            by_cases hr : (vecAt V j).root = N.br
            · exact .inl ⟨decide_eq_true hr, h1.1 hr⟩
            · exact .inr ⟨decide_eq_false hr, by simpa using fun e => hr (h1.2 e)⟩
          have R1 := Lib.hid (rng_left (a := N.br.vals) (b := [sv]) (rangeAt_below Hc1.out HBr.out hgw))
          have R2 := Lib.hid (rng_left (a := (vecAt V j).root.vals) (rangeAt_below HVj.out HBr.out hgV))
          have hcj : wr.cell? ⟨gV, j * 21 + 8, none⟩ = some (.int .i64 (vecAt V j).cost) := rangeAt_below HVj.out HBr.out hgV 8 _ rfl
          have E1 : ∀ (W : World), (binOp .eql 29 (.agg (vecAt V j).root.vals.toArray) (.agg N.br.vals.toArray)).run Try.prog W = .ok (.bool (decide ((vecAt V j).root = N.br))) W := fun W => br_eq _ _ W
          have G1 : ∀ (x y : Operand) (W : World), (eqGuard .eql 29 x y (.agg (vecAt V j).root.vals.toArray) (.agg N.br.vals.toArray)).run Try.prog W = .ok () W := fun x y W => br_guard .eql _ _ x y W
          have lgV : gV < wr.heap.size := Nat.lt_of_lt_of_le hgV HBr.out.size
          have lg : g < wr.heap.size := Nat.lt_of_lt_of_le hgw HBr.out.size
          generalize (vecAt V j).cost = cj at *
          rcases hor with ⟨h1, h2⟩ | ⟨h1, h2⟩
          · rw [h1] at E1
            subst h2
            clear h1
            go_wp2_with fail
            refine wp_region_ext (by kernel_rfl) (by kernel_rfl) ?_
            repeat (go_big_quiet_step (fail))
            go_big_quiet_want
            with_reducible refine quiet_load_rng (b := ?b9) (off := ?o9) (ds := ?ds9) (vecAt V j).root.vals ?hx9 ?hr9 ?hu9 ?hd9 ?hi9 ?hk9
            case hx9 => rfl
            case hr9 => rintro _ ⟨y, rfl⟩; exact rangeAt_below R2.out y.below lgV
            case hu9 => exact Try.underlying29
            case hd9 => rfl
            case hi9 => exact info29
            go_simp
            go_big_quiet_on
            repeat (go_big_quiet_step (fail))
            go_big_quiet_want
            with_reducible refine quiet_load_rng (b := ?b10) (off := ?o10) (ds := ?ds10) N.br.vals ?hx10 ?hr10 ?hu10 ?hd10 ?hi10 ?hk10
            case hx10 => rfl
            case hr10 => rintro _ ⟨y, rfl⟩; exact rangeAt_below R1.out y.below lg
            case hu10 => exact Try.underlying29
            case hd10 => rfl
            case hi10 => exact info29
            go_simp
            go_big_quiet_on
            repeat (go_big_quiet_step (fail))
            refine wpQuiet_nil ?_
            rintro W12 ⟨⟨_, hb9⟩, rfl⟩
            try simp only [] at *
            have HB12 := Lib.hid (HBr.out.trans (hb9.mono HBr.out.size))
            clear HBr hb9 R1 R2 E1 G1 lgV lg hcj
            go_wp2_with fail
            go_roundw
            case rel => exact ⟨j + 1, by omega, by go_num, HB12⟩
            case measure => simp [intOf]; omega
          · rw [h1] at E1
            clear h1
            go_wp2_with fail
            refine wp_region_ext (by kernel_rfl) (by kernel_rfl) ?_
            repeat (go_big_quiet_step (fail))
            go_big_quiet_want
            with_reducible refine quiet_load_rng (b := ?b11) (off := ?o11) (ds := ?ds11) (vecAt V j).root.vals ?hx11 ?hr11 ?hu11 ?hd11 ?hi11 ?hk11
            case hx11 => rfl
            case hr11 => rintro _ ⟨y, rfl⟩; exact rangeAt_below R2.out y.below lgV
            case hu11 => exact Try.underlying29
            case hd11 => rfl
            case hi11 => exact info29
            go_simp
            go_big_quiet_on
            repeat (go_big_quiet_step (fail))
            go_big_quiet_want
            with_reducible refine quiet_load_rng (b := ?b12) (off := ?o12) (ds := ?ds12) N.br.vals ?hx12 ?hr12 ?hu12 ?hd12 ?hi12 ?hk12
            case hx12 => rfl
            case hr12 => rintro _ ⟨y, rfl⟩; exact rangeAt_below R1.out y.below lg
            case hu12 => exact Try.underlying29
            case hd12 => rfl
            case hi12 => exact info29
            go_simp
            go_big_quiet_on
            repeat (go_big_quiet_step (fail))
            refine wpQuiet_nil ?_
            rintro W12 ⟨⟨_, hb9⟩, rfl⟩
            try simp only [] at *
            have HB12 := Lib.hid (HBr.out.trans (hb9.mono HBr.out.size))
            clear HBr hb9 R1 R2 E1 G1 lgV lg hcj
            go_wp2_with fail
            go_roundw
            case rel => exact ⟨j + 1, by omega, by go_num, HB12⟩
            case measure => simp [intOf]; omega
    · have hjn : j = n := by omega
      subst hjn
      go_wp2_with fail
      go_ret
      exact ⟨rfl, hb5.trans (HBr.out.mono hb5.size)⟩
theorem law_TreeRoot (v : Value) (L : List (Node × Value)) (w : World) (h : IsNodes w v L) :
    Calls Try.prog 9 #[v] w fun e w' => e = .returned (.bool true) ∧ Below w.heap.size w w' := by
  obtain ⟨A, n, cap, rfl, hL, hcap, hn, hl⟩ := h
  exact treeRoot_any L A n cap hL hn hcap w hl
end Go.Proofs.Ythpgdipcdllfdaa

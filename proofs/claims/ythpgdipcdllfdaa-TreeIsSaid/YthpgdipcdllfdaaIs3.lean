/- TreeIs: the walk of the law itself. -/
import Derived.Test.YthpgdipcdllfdaaIs2
namespace Go.Proofs.Ythpgdipcdllfdaa
open Go.RowKit
set_option maxRecDepth 100000 in
set_option maxHeartbeats 16000000 in
theorem treeIs_any (L : List (Node × Value)) (A : Option Addr) (n cap : Nat) (hL : L.length = n) (hn : n ≤ 9223372036854775807) (hcap : n ≤ cap) (w : World) (hl : NodesIn w w.heap.size A L) :
    Calls Try.prog 6 #[.slice A n cap] w fun e w' => e = .returned (.bool true) ∧ Below w.heap.size w w' := by
  have hG := grown_any w
  have hN : ∀ W, Below w.heap.size w W → Calls Try.prog 15 #[.slice A n cap] W (NetsPost W (L.map (·.1))) := fun W hb => nets_any L A n cap hL hn hcap W ((hl.below hb (Nat.le_refl _)).imp hb.size)
  have hR : ∀ W, Below w.heap.size w W → n ≤ 12 → okTo (L.map (·.1)) n = true → PortsOk (L.map (·.1)) → Calls Try.prog 19 #[.slice A n cap] W (RolPost W (L.map (·.1))) := fun W hb h12 hok hp =>
    roles_any L A n cap hL h12 hcap W ((hl.below hb (Nat.le_refl _)).imp hb.size) hok hp
  have hf1 : ∀ (args : Array Value) (W : World), (callFunc 24 args).run Try.prog W = .ok (.enter 24 args) W := fun args W => by kernel_rfl
  have hM : ∀ W, Below w.heap.size w W → n ≤ 12 → validNet (L.map (·.1)) = true → Calls Try.prog 23 #[.slice A n cap, .func (.func 24) #[] #[]] W (RoomPost W (L.map (·.1)) (fun _ _ => true)) := fun W hb h12 hv =>
    rooms_any L A n cap _ _ _ hL h12 hcap W ((hl.below hb (Nat.le_refl _)).imp hb.size) hv hf1 (fun i k W' _ _ _ => always_any i k W')
  have hll : (L.map (·.1)).length = n := by rw [List.length_map]; exact hL
  have hrl : ∀ i, i < n → ((rolesM (L.map (·.1))).getD i []).length = (nodeAt (L.map (·.1)) i).ports.length := fun i hi => rolesM_len _ (by omega)
  have hrg : ∀ i k, i < n → k < (nodeAt (L.map (·.1)) i).ports.length → ((rolesM (L.map (·.1))).getD i []).getD k 0 = roleAt (L.map (·.1)) (solveM (L.map (·.1))) i k := fun i k hi hk => rolesM_get _ (by omega) hk
  have hM2 : ∀ W p AR capR, VarRows W p AR n capR (fun i => (rolesM (L.map (·.1))).getD i []) → n ≤ capR → Below w.heap.size w W → n ≤ 12 → validNet (L.map (·.1)) = true → Calls Try.prog 23 #[.slice A n cap, .func (.func 25) #[] #[.pointer (some ⟨p, 0, none⟩)]] W (RoomPost W (L.map (·.1)) (passH (L.map (·.1)) (solveM (L.map (·.1))))) := by
    intro W p AR capR hvr hcr hb h12 hv
    have q1 := rooms_pass L A n cap (L.map (·.1)) (solveM (L.map (·.1))) (fun i => (rolesM (L.map (·.1))).getD i []) rfl hL h12 hcap hv
    have q2 := q1 hrl hrg W
    have q3 := q2 ((hl.below hb (Nat.le_refl _)).imp hb.size)
    have q4 := q3 p capR AR hvr hcr
    exact q4
  have HG := Lib.hid hG
  have HN := Lib.hid hN
  have HR := Lib.hid hR
  have HM := Lib.hid hM
  have HM2 := Lib.hid hM2
  have HL := Lib.hid hL
  have Hl := Lib.hid hl
  have Hll := Lib.hid hll
  have hnode : ∀ j (hj : j < L.length), nodeAt (L.map (·.1)) j = L[j].1 := fun j hj => by
    unfold nodeAt
    rw [List.getD_eq_getElem?_getD, List.getElem?_map, List.getElem?_eq_getElem hj]; rfl
  have Hnode := Lib.hid hnode
  generalize hl' : L.map (·.1) = l at *
  have hsol : validNet l = true → Sol l (solveM l) := fun hv => sol_solve hv
  generalize solveM l = V at *
  have HSol := Lib.hid hsol
  have Hrl := Lib.hid hrl
  have Hrg := Lib.hid hrg
  clear hG hN hR hM hM2 hL hl hll hnode hl' hsol hrl hrg hf1
  go_enter Try.func6, Try.ntmps6
  go_upto_region 3 with (first
    | ((with_reducible refine HG.out.mono ?_)
       rintro e w1 ⟨rfl, hb1⟩
       skip)
    )
  have HN1 := Lib.hid (HN.out w1 hb1)
  go_upto_region 6 with (first
    | ((with_reducible refine HN1.out.mono ?_)
       rintro e w2 ⟨b, rfl, hyes, hb2⟩
       cases b
       rotate_left
       obtain ⟨h12, hok, hna⟩ := hyes rfl
       have hv := valid_of h12 hok
       rw [Hll.out] at h12 hok
       have HR2 := HR.out w2 (hb1.trans (hb2.mono hb1.size)) h12 hok (netAt_ports hna)
       have Hv := Lib.hid hv
       clear hv)
    | ((with_reducible refine HR2.mono ?_)
       rintro e w3 ⟨rv, vs, rfl, hown, hrows, hb3⟩
       rw [Hll.out] at hown hrows
       have hRA := rows_at hown hrows
       obtain ⟨AR, capR, rfl, hcapR, -⟩ := id hRA
       have hb3' := (hb1.trans (hb2.mono hb1.size)).trans (hb3.mono (hb1.trans (hb2.mono hb1.size)).size)
       have HRA := Lib.hid hRA
       clear hown hrows hRA)
    )
  rotate_left
  · go_ret
    exact ⟨rfl, hb1.trans (hb2.mono hb1.size)⟩
  clear hna hyes HR2 HG HN HN1 HR hb1 hb2 hb3 hok
  have hB0 : Blk (w3.alloc (.cells #[.slice AR n capR] 41)) w3.heap.size 41 [.slice AR n capR] := Blk.new w3 [.slice AR n capR] 41
  have hb4 : Below w3.heap.size w3 (w3.alloc (.cells #[.slice AR n capR] 41)) := (Below.refl _ _).alloc (Nat.le_refl _) _
  have hvr : VarRows (w3.alloc (.cells #[.slice AR n capR] 41)) w3.heap.size AR n capR (fun i => (rolesM l).getD i []) := ⟨hB0.box.cell 0, hB0.lt, HRA.out.below hb4⟩
  have hb5 : Below w.heap.size w (w3.alloc (.cells #[.slice AR n capR] 41)) := hb3'.trans (hb4.mono hb3'.size)
  generalize w3.alloc (.cells #[.slice AR n capR] 41) = W4 at *
  generalize w3.heap.size = PR at *
  have Hvr := Lib.hid hvr
  have Hl4 := Lib.hid (Hl.out.below hb5 (Nat.le_refl _))
  have hcell0 : W4.cell? ⟨PR, 0, none⟩ = some (.slice AR n capR) := hvr.cell
  have HB4 : Hid (Below W4.heap.size W4 W4) := Lib.hid (Below.refl _ _)
  clear hB0 hb4 HRA hb3' hvr
  go_upto_region 8 with (fail)
  clear hcell0
  go_wp2_with fail
  go_loopw [5, 35] (fun _ i wr => ∃ j : Nat, j ≤ n ∧ i = .int .i64 j ∧ Hid (Below W4.heap.size W4 wr)) (fun _ i _ => n - (intOf i).toNat)
  case atStart => exact ⟨0, by omega, rfl, HB4⟩
  case round =>
    clear HB4
    obtain ⟨j, hj, rfl, HBr⟩ := hrel
    by_cases hlj : j < n
    · have hjx : j < L.length := by rw [HL.out]; exact hlj
      obtain ⟨g, o, rfl, hg, hc⟩ := Hl4.out.row (by rw [List.length_map]; omega)
      have hc1 := hc j (by rw [List.length_map]; exact hjx)
      rw [List.getElem_map] at hc1
      have hmm := Hl4.out.mems L[j] (List.getElem_mem hjx)
      have hnk := Hnode.out j hjx
      generalize hN : L[j].1 = N at *
      generalize hS : L[j].2 = sv at *
      obtain ⟨A2, cap2, rfl, hcap2, hrow⟩ := hmm
      have hvr := Hvr.out.below HBr.out
      have hc0 := hvr.cell
      have lPR := hvr.lt
      obtain ⟨AR', capR', eR, _, hRr⟩ := hvr.rows
      injection eR with eR1 eR2 eR3
      subst eR1 eR3
      obtain ⟨gR, rfl, hgR, hRi⟩ := hRr (by omega)
      obtain ⟨AJ, cJ, hJ1, hJ2, _⟩ := hRi j hlj
      have hRl := Hrl.out j hlj
      rw [hnk] at hRl
      rw [hRl] at hJ1 hJ2
      have hp8 : N.ports.length ≤ 8 := by
        have hx := valid_node Hv.out (i := j) (by rw [Hll.out]; exact hlj)
        rw [hnk] at hx
        unfold rightN at hx
        simp only [Bool.and_eq_true, decide_eq_true_eq] at hx
        omega
      generalize N.ports.length = np at *
      have hgw : g < W4.heap.size := by have := hb5.size; omega
      have hn8 : wr.cell? ⟨g, o + j * 9 + 8, none⟩ = some (.slice A2 np cap2) := rangeAt_below hc1 HBr.out hgw 8 _ rfl
      have lg : g < wr.heap.size := Nat.lt_of_lt_of_le hgw HBr.out.size
      clear hc hc1 hN hS hrow hnk hvr hRr hRi hRl
      go_wp2_with fail
      refine wp_region_ext (by kernel_rfl) (by kernel_rfl) ?_
      repeat (go_big_quiet_step (fail))
      refine wpQuiet_nil ?_
      rintro W12 ⟨⟨_, hb9⟩, rfl⟩
      try simp only [] at *
      have HB12 := Lib.hid (HBr.out.trans (hb9.mono HBr.out.size))
      clear HBr hb9 hc0 hJ1 hn8 lPR lg hgR
      go_wp2_with fail
      go_roundw
      case rel => exact ⟨j + 1, by omega, by go_num, HB12⟩
      case measure => simp [intOf]; omega
    · obtain rfl : n = j := by omega
      have hbr : Below w.heap.size w wr := hb5.trans (HBr.out.mono hb5.size)
      have HMr := Lib.hid (HM.out wr hbr h12 Hv.out)
      clear HM
      go_upto_region 15 with (first
        | ((with_reducible refine HMr.out.mono ?_)
           rintro e W5 ⟨g1, c1, rfl, hc1, _, hg1, hr1, hb6⟩
           rw [Hll.out] at hr1 hc1)
        )
      rw [Hll.out]
      have hb7 : Below W4.heap.size W4 W5 := HBr.out.trans (hb6.mono HBr.out.size)
      have hbw := hb5.trans (hb7.mono hb5.size)
      have Hr1 := Lib.hid hr1
      have HM3 := Lib.hid (HM2.out W5 PR AR capR (Hvr.out.below hb7) hcapR hbw h12 Hv.out)
      clear HM2 hr1 HMr hbr
      go_upto_region 16 with (first
        | ((with_reducible refine HM3.out.mono ?_)
           rintro e W6 ⟨g2, c2, rfl, hc2, _, hg2, hr2, hb8⟩
           rw [Hll.out] at hr2 hc2)
        )
      rw [Hll.out]
      have hb9 : Below W4.heap.size W4 W6 := hb7.trans (hb8.mono hb7.size)
      have Hr1' : Hid (∀ k, k < n + 64 → W6.cell? ⟨g1, k, none⟩ = some (.int .i64 ((roomsM l (passH l V)).getD k 0))) := Lib.hid (fun k hk => by
        have h1 := laterc (Hr1.out k hk) hb8 hg1
        rw [all_some Hv.out (HSol.out Hv.out)] at h1
        exact h1)
      have Hr2' := Lib.hid hr2
      have Hvr6 := Lib.hid (Hvr.out.below hb9)
      have Hl6 := Lib.hid (Hl4.out.below hb9 hb5.size)
      have hb10 := hb5.trans (hb9.mono hb5.size)
      have hg16 : g1 < W6.heap.size := Nat.lt_of_lt_of_le hg1 hb8.size
      clear hr2 HM3 Hr1 hb8 hb7 hbw Hvr Hl4 HBr hb5 hb9
      have hmm := @run_makeMap Try.prog
      go_upto_region 17 with (fail)
      have hb11 : Below W6.heap.size W6 (W6.alloc (.map #[] 0)) := (Below.refl _ _).alloc (Nat.le_refl _) _
      have hm7 : (W6.alloc (.map #[] 0)).heap[W6.heap.size]? = some (.map #[] 0) := heap_alloc_new _ _
      have Hvr7 := Lib.hid (Hvr6.out.below hb11)
      have Hl7 := Lib.hid (Hl6.out.below hb11 hb10.size)
      have Hr1 : Hid (∀ k, k < n + 64 → (W6.alloc (.map #[] 0)).cell? ⟨g1, k, none⟩ = some (.int .i64 ((roomsM l (passH l V)).getD k 0))) := Lib.hid (fun k hk => laterc (Hr1'.out k hk) hb11 hg16)
      have Hr2 : Hid (∀ k, k < n + 64 → (W6.alloc (.map #[] 0)).cell? ⟨g2, k, none⟩ = some (.int .i64 ((roomsM l (passH l V)).getD k 0))) := Lib.hid (fun k hk => laterc (Hr2'.out k hk) hb11 hg2)
      have hb12 := hb10.trans (hb11.mono hb10.size)
      have hPM : W6.heap.size < (W6.alloc (.map #[] 0)).heap.size := by simp
      have hwP : w.heap.size ≤ W6.heap.size := hb10.size
      generalize W6.alloc (.map #[] 0) = W7 at *
      generalize W6.heap.size = PM at *
      have Hm7 := Lib.hid hm7
      have HB7 : Hid (Below W7.heap.size W7 W7) := Lib.hid (Below.refl _ _)
      clear hm7 hb11 Hvr6 Hl6 Hr1' Hr2' hb10 hmm
      go_wp2_with fail
      go_loopw [8, 10, 11, 12, 59, 67] (fun e _ _ _ i _ wr => ∃ (j : Nat) (q : Int), j ≤ n ∧ i = .int .i64 j ∧ e = .int .i64 q ∧ 0 ≤ q ∧ q ≤ 8 * j ∧ Hid (q = (cnt (fun p => passH l V p.1 p.2) (portsTo l j 0) : Nat)) ∧ Hid (Below W7.heap.size W7 wr)) (fun _ _ _ _ i _ _ => n - (intOf i).toNat)
      case atStart => exact ⟨0, 0, by omega, rfl, rfl, by omega, by omega, Lib.hid rfl, HB7⟩
      case round =>
        clear HB7
        obtain ⟨j, q, hj, rfl, rfl, hq0, hqj, HQ, HBr⟩ := hrel
        by_cases hlj : j < n
        · have hjx : j < L.length := by rw [HL.out]; exact hlj
          obtain ⟨g, o, rfl, hg, hc⟩ := Hl7.out.row (by rw [List.length_map]; omega)
          have hc1 := hc j (by rw [List.length_map]; exact hjx)
          rw [List.getElem_map] at hc1
          have hmm := Hl7.out.mems L[j] (List.getElem_mem hjx)
          have hnk := Hnode.out j hjx
          generalize hN : L[j].1 = N at *
          generalize hS : L[j].2 = sv at *
          obtain ⟨A2, cap2, rfl, hcap2, hrow⟩ := hmm
          have hRl := Hrl.out j hlj
          rw [hnk] at hRl
          have hp8 : N.ports.length ≤ 8 := by
            have hx := valid_node Hv.out (i := j) (by rw [Hll.out]; exact hlj)
            rw [hnk] at hx
            unfold rightN at hx
            simp only [Bool.and_eq_true, decide_eq_true_eq] at hx
            omega
          generalize hnp : N.ports.length = np at *
          have hg7 : g < W7.heap.size := by omega
          have Hc1 := Lib.hid (rangeAt_below hc1 HBr.out hg7)
          have Hnk := Lib.hid hnk
          have Hnp := Lib.hid hnp
          have HRl := Lib.hid hRl
          clear hc hc1 hN hS hrow hnk hnp hRl
          go_upto_region 20 with (first
            | ((with_reducible refine wpList_load_rng (ty := 32) (b := ?b6) (o := ?o6) (ds := ?ds6) (N.vals (.slice A2 np cap2)) ?hx6 ?hB6 ?hu6 ?hd6 ?hi6 ?hk6)
               case hx6 => rfl
               case hB6 => exact Hc1.out
               case hu6 => exact Try.underlying32
               case hd6 => rfl
               case hi6 => exact info32)
            | ((with_reducible refine wpList_store_blk (ty := 32) (b := ?b7) (o := ?o7) (t := 32) zNode (N.vals (.slice A2 np cap2)) ?hx7 ?hy7 ?hB7 ?ho7 ?hi7 ?h17 ?hk7)
               case hx7 => rfl
               case hy7 => rfl
               case hB7 => exact Blk.new wr zNode 32
               case ho7 => exact Nat.le_refl _
               case hi7 => exact info32
               case h17 => exact (Node.one _ _ _ _)
               intro W8 hBW8 hoW8))
          obtain ⟨hb4, lP⟩ := Only.fresh hoW8
          have hc8 : W8.cell? ⟨wr.heap.size, 8, none⟩ = some (.slice A2 np cap2) := hBW8.box.cell 8
          have HB8 : Hid (Below W7.heap.size W7 W8) := Lib.hid (HBr.out.trans (hb4.mono HBr.out.size))
          clear hBW8 hoW8 hb4 HBr Hc1
          generalize wr.heap.size = PI at *
          go_wp2_with fail
          go_loopw [8, 12, 67] (fun e _ i wr => ∃ (k : Nat) (q' : Int), k ≤ np ∧ i = .int .i64 k ∧ e = .int .i64 q' ∧ 0 ≤ q' ∧ q' ≤ 8 * j + k ∧ Hid (q' = (cnt (fun p => passH l V p.1 p.2) (portsTo l j k) : Nat)) ∧ Hid (Below W7.heap.size W7 wr)) (fun _ _ i _ => np - (intOf i).toNat)
          case atStart => exact ⟨0, q, by omega, rfl, rfl, hq0, by omega, HQ, HB8⟩
          case round =>
            clear HB8 HQ hc8
            obtain ⟨k, q', hk, rfl, rfl, hq0', hqk, HQ, HBr⟩ := hrel
            by_cases hlk : k < np
            · have hvr := Hvr7.out.below HBr.out
              have hkR : k < ((fun i => (rolesM l).getD i []) j).length := by rw [show ((fun i => (rolesM l).getD i []) j).length = np from HRl.out]; exact hlk
              obtain ⟨gR, gJ, cJ, rfl, hJ1, hJ2, hJ3, _, _⟩ := hvr.at_ hlj hkR
              have hc0 := hvr.cell
              have hnl : k < (nodeAt l j).ports.length := by rw [Hnk.out, Hnp.out]; exact hlk
              have hro := Hrg.out j k hlj hnl
              have hJ3' : wr.cell? ⟨gJ, k, none⟩ = some (.int .i64 (roleAt l V j k)) := by rw [← hro]; exact hJ3
              have hJ1' : wr.cell? ⟨gR, j, none⟩ = some (.slice (some ⟨gJ, 0, none⟩) np cJ) := by
                have e := HRl.out
                have h1 := hJ1
                rw [show ((fun i => (rolesM l).getD i []) j).length = np from e] at h1
                exact h1
              have hcJ : np ≤ cJ := by
                have h1 := hJ2
                rw [show ((fun i => (rolesM l).getD i []) j).length = np from HRl.out] at h1
                exact h1
              have Hcs : Hid (((cnt (fun p => passH l V p.1 p.2) (portsTo l j (k + 1)) : Nat) : Int) = q' + if roleAt l V j k ≠ 3 then 1 else 0) := Lib.hid (by
                rw [portsTo_succ, cnt_snoc, HQ.out]
                unfold passH
                by_cases e : roleAt l V j k = 3 <;> simp [e])
              clear hvr hkR hJ1 hJ2 hJ3 hro HQ
              generalize roleAt l V j k = ρ at *
              by_cases hρ : ρ = 3
              · subst hρ
                have HQ2 : Hid (q' = (cnt (fun p => passH l V p.1 p.2) (portsTo l j (k + 1)) : Nat)) := Lib.hid (by rw [Hcs.out]; simp)
                clear Hcs
                go_wp2_with fail
                go_roundw
                case rel => exact ⟨k + 1, q', by omega, by go_num, rfl, hq0', by omega, HQ2, HBr⟩
                case measure => simp [intOf]; omega
              · have hρ2 : (ρ != 3) = true := by simpa using hρ
                have HQ2 : Hid (q' + 1 = (cnt (fun p => passH l V p.1 p.2) (portsTo l j (k + 1)) : Nat)) := Lib.hid (by rw [Hcs.out]; simp [hρ])
                clear Hcs hρ
                go_wp2_with fail
                go_roundw
                case rel => exact ⟨k + 1, q' + 1, by omega, by go_num, rfl, by omega, by omega, HQ2, HBr⟩
                case measure => simp [intOf]; omega
            · obtain rfl : np = k := by omega
              have HQ2 : Hid (q' = (cnt (fun p => passH l V p.1 p.2) (portsTo l (j + 1) 0) : Nat)) := Lib.hid (by
                rw [portsTo_next, Hnk.out, Hnp.out]; exact HQ.out)
              clear HQ
              go_wp2_with fail
              go_roundw
              case rel => exact ⟨j + 1, q', by omega, by go_num, rfl, hq0', by omega, HQ2, HBr⟩
              case measure => simp [intOf]; omega
        · obtain rfl : n = j := by omega
          have hkc := kinds_count Hv.out (HSol.out Hv.out)
          rw [Hll.out] at hkc
          have hqn : q = ((n : Int) + 64) - (kindsOf (roomsM l (passH l V)) (n + 64) : Nat) := by have := HQ.out; omega
          have hrl2 : (roomsM l (passH l V)).length = n + 64 := by
            have := roomsN_len l (passH l V) (l.length + 64)
            rw [Hll.out] at this
            unfold roomsM
            rw [Hll.out]; exact this
          have hrb : ∀ x, x < n + 64 → 0 ≤ (roomsM l (passH l V)).getD x 0 ∧ (roomsM l (passH l V)).getD x 0 ≤ 1000 := fun x hx => by
            have := room_le (V := V) Hv.out (x := x) (by rw [Hll.out]; exact hx)
            omega
          have hr1 : ∀ k, k < n + 64 → wr.cell? ⟨g1, k, none⟩ = some (.int .i64 ((roomsM l (passH l V)).getD k 0)) := fun k hk => laterc (Hr1.out k hk) HBr.out (by omega)
          have hr2 : ∀ k, k < n + 64 → wr.cell? ⟨g2, k, none⟩ = some (.int .i64 ((roomsM l (passH l V)).getD k 0)) := fun k hk => laterc (Hr2.out k hk) HBr.out (by omega)
          have hm0 : wr.ownsMap (H := Unit) Try.prog 3 (plainElem Try.prog 4) PM 0 (Maps.setOf (.lit (.bool true)) (numsTo (roomsM l (passH l V)) 0)) := ownsMap_start ((HBr.out.block PM hPM).trans Hm7.out)
          have hbw : Below w.heap.size w wr := hb12.trans (HBr.out.mono hb12.size)
          have hPMw : PM < wr.heap.size := Nat.lt_of_lt_of_le hPM HBr.out.size
          clear hkc Hr1 Hr2 HQ
          generalize roomsM l (passH l V) = r at *
          have Hrb := Lib.hid hrb
          have Hrl2 := Lib.hid hrl2
          have Hr1 := Lib.hid hr1
          have Hr2 := Lib.hid hr2
          have Hm0 := Lib.hid hm0
          have Hqn := Lib.hid hqn
          have HB9 : Hid (Below PM wr wr) := Lib.hid (Below.refl _ _)
          clear hrb hrl2 hr1 hr2 hm0 hqn HBr
          obtain ⟨W9, hW9⟩ : ∃ W9, W9 = wr := ⟨_, rfl⟩
          rw [← hW9] at Hr1 Hr2 Hm0 HB9 hbw hPMw ⊢
          clear hW9
          go_wp2_with fail
          go_loopw [13, 84] (fun _ i wr => ∃ x : Nat, x ≤ n + 64 ∧ i = .int .i64 x ∧ Hid (wr.ownsMap (H := Unit) Try.prog 3 (plainElem Try.prog 4) PM x (Maps.setOf (.lit (.bool true)) (numsTo r x))) ∧ Hid (Below PM W9 wr)) (fun _ i _ => n + 64 - (intOf i).toNat)
          case atStart => exact ⟨0, by omega, rfl, Hm0, HB9⟩
          case round =>
            clear Hm0 HB9
            obtain ⟨x, hx, rfl, HM, HBr⟩ := hrel
            by_cases hlx : x < n + 64
            · have hxi : (x : Int) < (n : Int) + 64 := by omega
              have hcx : wr.cell? ⟨g2, x, none⟩ = some (.int .i64 (r.getD x 0)) := laterc (Hr2.out x hlx) HBr.out (by omega)
              have hwf := wf_small (Hrb.out x hlx).1 (Hrb.out x hlx).2
              have Hwf := Lib.hid hwf
              have Hss : Hid (Maps.setOf (H := Unit) (.lit (.bool true)) (numsTo r (x + 1)) = (Maps.setOf (.lit (.bool true)) (numsTo r x)).put (.int .i64 (r.getD x 0)) (.lit (.bool true))) := Lib.hid (by
                rw [numsTo_succ, Maps.setOf_snoc])
              clear hwf
              generalize r.getD x 0 = v at *
              go_wp2_with (first
                | (at_mapUpdate; refine wpList_mapUpdate_own _ rfl _ _ _ 57 rfl 3 4 (Maps.int_keyed Try.underlying3) Try.underlying57 (plainElem (H := Unit) Try.prog 4) PM x _ rfl HM.out (by unfold maxLen; omega) _ _ _ rfl rfl (Maps.keyOf_int_mk Try.underlying3 Hwf.out) _ [] (plainElem_bool Try.underlying4 true) ?_; intro w1 hown1 hgrow1))
              rw [← Hss.out] at hown1
              have HM1 := Lib.hid hown1
              have HB1 : Hid (Below PM W9 w1) := Lib.hid (below_grown HBr.out hgrow1 (Nat.le_refl _) (by have := HBr.out.size; omega))
              clear hown1 hgrow1 HM HBr hcx
              go_wp2_with fail
              go_roundw
              case rel => exact ⟨x + 1, by omega, by go_num, HM1, HB1⟩
              case measure => simp [intOf]; omega
            · obtain rfl : x = n + 64 := by omega
              have hE : Calls Try.prog 21 #[.slice (some ⟨g1, 0, none⟩) (n + 64) c1, .slice (some ⟨g2, 0, none⟩) (n + 64) c2] wr fun e w' => e = .returned (.bool true) ∧ ∃ q, w' = wr.drewN q := by
                refine (Try.slices_Equal_int g1 0 (n + 64) c1 g2 0 (n + 64) c2 r r wr (by rw [Hrl2.out]; exact Nat.le_refl _) (by rw [Hrl2.out]; exact Nat.le_refl _) (by omega) (by omega) (fun j hj => ?_) (fun j hj => ?_)).mono ?_
                · rw [Nat.zero_add]; exact laterc (Hr1.out j (by rw [← Hrl2.out]; exact hj)) HBr.out (by omega)
                · rw [Nat.zero_add]; exact laterc (Hr2.out j (by rw [← Hrl2.out]; exact hj)) HBr.out (by omega)
                · rintro e w' ⟨rfl, h⟩
                  exact ⟨by simp, h⟩
              have hsz : Maps.size (Maps.setOf (H := Unit) (.lit (.bool true)) (numsTo r (n + 64))) = kindsOf r (n + 64) := Maps.size_setOf _ _ (fun x hx => by
                unfold numsTo at hx
                obtain ⟨y, _, rfl⟩ := List.mem_map.1 hx
                simp [WideAt.IsKeyLit])
              have hlen : ∀ q', (Builtin.len_ #[57] 3 #[.map (some PM)]).run Try.prog (wr.drewN q') = .ok (.int .i64 (kindsOf r (n + 64) : Nat)) (wr.drewN q') := fun q' => by
                rw [← hsz]
                exact (ownsMap_block (W := wr.drewN q') HM.out rfl).len Try.underlying57 3
              have hkle : kindsOf r (n + 64) ≤ 1000 := by
                have := HM.out.size_le
                rw [hsz] at this; omega
              have HE := Lib.hid hE
              have hq := Hqn.out
              clear hE hsz HM Hr1 Hr2 Hqn
              generalize kindsOf r (n + 64) = K at *
              have Hq := Lib.hid hq
              clear hq
              have hbF : ∀ q', Below w.heap.size w (wr.drewN q') := fun q' => hbw.trans (((HBr.out.mono (by omega : w.heap.size ≤ PM)).trans ⟨rfl, rfl, rfl, Nat.le_refl _, fun _ _ => rfl⟩))
              clear HBr hbw
              go_wp2_with (first
                | ((with_reducible refine HE.out.mono ?_)
                   rintro e w9 ⟨rfl, q', rfl⟩
                   skip)
                )
              have hqb : (q == (n : Int) + 64 - (K : Int)) = true := by
                have := Hq.out
                simpa using this
              rw [hqb]
              go_ret
              exact ⟨rfl, hbF q'⟩
theorem law_TreeIs (v : Value) (L : List (Node × Value)) (w : World) (h : IsNodes w v L) :
    Calls Try.prog 6 #[v] w fun e w' => e = .returned (.bool true) ∧ Below w.heap.size w w' := by
  obtain ⟨A, n, cap, rfl, hL, hcap, hn, hl⟩ := h
  exact treeIs_any L A n cap hL hn hcap w hl
end Go.Proofs.Ythpgdipcdllfdaa

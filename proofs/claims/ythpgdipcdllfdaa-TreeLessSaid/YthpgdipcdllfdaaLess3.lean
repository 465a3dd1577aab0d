/- TreeLess: the walk. -/
import Derived.Test.YthpgdipcdllfdaaLess2
namespace Go.Proofs.Ythpgdipcdllfdaa
open Go.RowKit
theorem range_snoc {α : Type} (f : Nat → α) (k : Nat) : (List.range (k + 1)).map f = (List.range k).map f ++ [f k] := by simp [List.range_succ]
set_option maxRecDepth 100000 in
set_option maxHeartbeats 16000000 in
theorem treeLess_any (L : List (Node × Value)) (A : Option Addr) (n cap : Nat) (hL : L.length = n) (hn : n ≤ 9223372036854775807) (hcap : n ≤ cap) (w : World) (hl : NodesIn w w.heap.size A L) :
    Calls Try.prog 8 #[.slice A n cap] w fun e w' => e = .returned (.bool true) ∧ Below w.heap.size w w' := by
  have hG := grown_any w
  have hN : ∀ W, Below w.heap.size w W → Calls Try.prog 15 #[.slice A n cap] W (NetsPost W (L.map (·.1))) := fun W hb => nets_any L A n cap hL hn hcap W ((hl.below hb (Nat.le_refl _)).imp hb.size)
  have hS : ∀ W, Below w.heap.size w W → n ≤ 12 → okTo (L.map (·.1)) n = true → PortsOk (L.map (·.1)) → Calls Try.prog 20 #[.slice A n cap] W (SolPost W (solveM (L.map (·.1)))) := fun W hb h12 hok hp =>
    solve_any L A n cap hL h12 hcap W ((hl.below hb (Nat.le_refl _)).imp hb.size) hok hp
  have hR : ∀ W, Below w.heap.size w W → n ≤ 12 → okTo (L.map (·.1)) n = true → PortsOk (L.map (·.1)) → Calls Try.prog 19 #[.slice A n cap] W (RolPost W (L.map (·.1))) := fun W hb h12 hok hp =>
    roles_any L A n cap hL h12 hcap W ((hl.below hb (Nat.le_refl _)).imp hb.size) hok hp
  have HG := Lib.hid hG
  have HN := Lib.hid hN
  have HS := Lib.hid hS
  have HR := Lib.hid hR
  have HL := Lib.hid hL
  have Hl := Lib.hid hl
  have hll : (L.map (·.1)).length = n := by rw [List.length_map]; exact hL
  have Hll := Lib.hid hll
  have hnode : ∀ j (hj : j < L.length), nodeAt (L.map (·.1)) j = L[j].1 := fun j hj => by
    unfold nodeAt
    rw [List.getD_eq_getElem?_getD, List.getElem?_map, List.getElem?_eq_getElem hj]; rfl
  have Hnode := Lib.hid hnode
  generalize hl' : L.map (·.1) = l at *
  have Hl' := Lib.hid hl'
  clear hG hN hS hR hL hl hll hnode hl'
  go_enter Try.func8, Try.ntmps8
  go_upto_region 3 with (first
    | ((with_reducible refine HG.out.mono ?_)
       rintro e w1 ⟨rfl, hb1⟩
       skip)
    )
  have HN1 := Lib.hid (HN.out w1 hb1)
  go_upto_region 5 with (first
    | ((with_reducible refine HN1.out.mono ?_)
       rintro e w2 ⟨b, rfl, hyes, hb2⟩
       cases b
       rotate_left
       obtain ⟨h12, hok, hna⟩ := hyes rfl
       have hv := valid_of h12 hok
       rw [Hll.out] at h12 hok)
    )
  rotate_left
  · go_ret
    exact ⟨rfl, hb1.trans (hb2.mono hb1.size)⟩
  have hb3 := hb1.trans (hb2.mono hb1.size)
  have hsol := sol_solve hv
  have hvl : (solveM l).length = n := by unfold solveM; rw [rounds_len, Hll.out]
  have hrl : ∀ i, i < n → ((rolesM l).getD i []).length = (nodeAt l i).ports.length := fun i hi => rolesM_len l (by rw [Hll.out]; exact hi)
  have hrg : ∀ i k, i < n → k < (nodeAt l i).ports.length → ((rolesM l).getD i []).getD k 0 = roleAt l (solveM l) i k := fun i k hi hk => rolesM_get l (by rw [Hll.out]; exact hi) hk
  have hR1 := HR.out w2 hb3 h12 hok (netAt_ports hna)
  have hS0 := HS.out
  generalize solveM l = V at *
  have Hv := Lib.hid hv
  have Hok := Lib.hid hok
  have Hna := Lib.hid hna
  have Hsol := Lib.hid hsol
  have HVl := Lib.hid hvl
  have Hrl := Lib.hid hrl
  have Hrg := Lib.hid hrg
  have HR1 := Lib.hid hR1
  have HS0 := Lib.hid hS0
  clear hyes hna hok hv HG HN HN1 hb1 hb2 hsol hvl hrl hrg hR1 hS0 HR HS
  go_upto_region 6 with (first
    | ((with_reducible refine HR1.out.mono ?_)
       rintro e w3 ⟨rv, vs, rfl, hown, hrows, hb4⟩
       rw [Hll.out] at hown hrows
       have hRA := rows_at hown hrows
       obtain ⟨AR, capR, rfl, hcapR, -⟩ := id hRA)
    )
  have HRA := Lib.hid hRA
  have hb5 := hb3.trans (hb4.mono hb3.size)
  have HS1 := Lib.hid (HS0.out w3 hb5 h12 Hok.out (netAt_ports Hna.out))
  clear hown hrows hRA HR1 hb3 hb4 HS0
  go_upto_region 7 with (first
    | ((with_reducible refine HS1.out.mono ?_)
       rintro e w4 ⟨v, rfl, hown, hb6⟩
       rw [HVl.out] at hown
       have hVA := vecs_at hown HVl.out
       obtain ⟨AV, capV, rfl, hcapV, -⟩ := id hVA)
    )
  have HVA := Lib.hid hVA
  have HRA4 := Lib.hid (HRA.out.below hb6)
  have hb7 := hb5.trans (hb6.mono hb5.size)
  have Hl4 := Lib.hid (Hl.out.below hb7 (Nat.le_refl _))
  have lw4 : w.heap.size ≤ w4.heap.size := hb7.size
  have Hb7 := Lib.hid hb7
  have HB0 : Hid (Below w4.heap.size w4 w4) := Lib.hid (Below.refl _ _)
  clear hown hVA HS1 HRA hb5 hb6 hb7 Hok Hna Hl
  go_upto_region 9 with (fail)
  go_wp2_with fail
  go_loopw [7, 8, 9, 10, 11, 12, 13, 56, 77] (fun v v8 _ _ _ _ _ i _ wr => ∃ (j : Nat) (M : List (Node × Value)) (vs : List Value), j ≤ n ∧ i = .int .i64 j ∧ Hid (M.map (·.1) = (List.range j).map (lessN l V)) ∧ Hid (OwnNet wr w4.heap.size v M) ∧ Hid (wr.ownsRow w4.heap.size 50 1 v8 j vs) ∧ Hid (RowsOk wr w4.heap.size vs (fun i => (keeps l V i).map (roleAt l V i)) j) ∧ Hid (Below w4.heap.size w4 wr)) (fun _ _ _ _ _ _ _ i _ _ => n - (intOf i).toNat)
  case atStart => exact ⟨0, [], [], by omega, rfl, Lib.hid rfl, Lib.hid (OwnNet.nil _ _), Lib.hid (World.ownsRow_nil _ _ _ _), Lib.hid ⟨rfl, fun i hi => absurd hi (by omega)⟩, HB0⟩
  case round =>
    clear HB0
    obtain ⟨j, M, vs, hj, rfl, HM, HO, HW, HWR, HB⟩ := hrel
    by_cases hlj : j < n
    · have hjx : j < L.length := by rw [HL.out]; exact hlj
      have hjl : j < l.length := by rw [Hll.out]; exact hlj
      obtain ⟨g, o, rfl, hg, hc⟩ := Hl4.out.row (by rw [List.length_map]; omega)
      have hc1 := hc j (by rw [List.length_map]; exact hjx)
      rw [List.getElem_map] at hc1
      have hmm := Hl4.out.mems L[j] (List.getElem_mem hjx)
      have hnk := Hnode.out j hjx
      have hMl : M.length = j := by
        have := congrArg List.length HM.out
        simpa using this
      have hp8 : L[j].1.ports.length ≤ 8 := by
        have hx := valid_node Hv.out (i := j) hjl
        rw [hnk] at hx
        unfold rightN at hx
        simp only [Bool.and_eq_true, decide_eq_true_eq] at hx
        omega
      have hRlj := Hrl.out j hlj
      rw [hnk] at hRlj
      have hA := HRA4.out.below HB.out
      obtain ⟨gA, A11, c11, rfl, hgA, hcA, hcc11, hIA⟩ := hA.row hlj
      have hrgj : ∀ k, k < L[j].1.ports.length → ((rolesM l).getD j []).getD k 0 = roleAt l V j k := fun k hk => Hrg.out j k hlj (by rw [hnk]; exact hk)
      simp only [hRlj] at hcA hcc11
      generalize hN : L[j].1 = N at *
      generalize hS : L[j].2 = sv at *
      obtain ⟨A2, cap2, rfl, hcap2, hrow⟩ := hmm
      generalize hnp : N.ports.length = np at *
      have hg4 : g < w4.heap.size := by omega
      have Hc1 := Lib.hid (rangeAt_below hc1 HB.out hg4)
      have Hc0 := Lib.hid hc1
      have Hrow := Lib.hid hrow
      have HMl := Lib.hid hMl
      have Hnk := Lib.hid hnk
      have Hnp := Lib.hid hnp
      have HIA := Lib.hid hIA
      have Hrgj := Lib.hid hrgj
      have HRlj := Lib.hid hRlj
      have HcA := Lib.hid hcA
      clear hc hc1 hN hS hrow hnk hMl hnp hA hIA hrgj hRlj
      go_upto_region 14 with (first
        | ((with_reducible refine wpList_load_rng (ty := 32) (b := ?b5) (o := ?o5) (ds := ?ds5) (N.vals (.slice A2 np cap2)) ?hx5 ?hB5 ?hu5 ?hd5 ?hi5 ?hk5)
           case hx5 => rfl
           case hB5 => exact Hc1.out
           case hu5 => exact Try.underlying32
           case hd5 => rfl
           case hi5 => exact info32)
        | ((with_reducible refine wpList_store_blk (ty := 32) (b := ?b6) (o := ?o6) (t := 32) zNode (N.vals (.slice A2 np cap2)) ?hx6 ?hy6 ?hB6 ?ho6 ?hi6 ?h16 ?hk6)
           case hx6 => rfl
           case hy6 => rfl
           case hB6 => exact Blk.new wr zNode 32
           case ho6 => exact Nat.le_refl _
           case hi6 => exact info32
           case h16 => exact (Node.one _ _ _ _)
           intro W4 hBW4 hoW4))
      obtain ⟨hb8, lP⟩ := Only.fresh hoW4
      have HP4 : Hid (Blk W4 wr.heap.size 32 (N.vals (.slice A2 np cap2))) := hBW4
      have hc8 : W4.cell? ⟨wr.heap.size, 8, none⟩ = some (.slice A2 np cap2) := HP4.out.box.cell 8
      have hcA4 := laterc hcA hb8 hgA
      have lgA : gA < W4.heap.size := Nat.lt_of_lt_of_le hgA hb8.size
      generalize hPI : wr.heap.size = PI at *
      have lwo : wr.heap.size ≤ PI := by omega
      clear hBW4 hoW4 Hc1 hcA
      refine wp_region_ext (by kernel_rfl) (by kernel_rfl) ?_
      repeat (go_big_quiet_step (fail))
      refine wpQuiet_nil ?_
      rintro W5 ⟨⟨_, hb9⟩, rfl⟩
      try simp only [] at *
      have HP5 := Lib.hid (Blk.below HP4.out hb9 lP)
      have hb10 : Below PI wr W5 := hb8.trans (hb9.mono (Nat.le_of_lt lP))
      clear hcA4 hc8 HP4 hb8 hb9 lP lgA
      go_upto_region 17 with (first
        | ((with_reducible refine wpList_store_blk' (ty := 30) (b := ?b91) (o := ?o91) (t := 32) (N.vals (.slice A2 np cap2)) [.slice none 0 0] ?hx91 ?hy91 ?hB91 ?ho91 ?hi91 ?h191 ?hk91)
           case hx91 => rfl
           case hy91 => rfl
           case hB91 => exact HP5.out
           case ho91 => exact Nat.le_refl _
           case hi91 => exact infoSl
           case h191 => exact fun v hv => by rw [List.mem_singleton.1 hv]; rfl
           intro W6 hS6 hO6))
      have HP6 : Hid (Blk W6 PI 32 (N.vals (.slice none 0 0))) := Lib.hid hS6
      have hb11 : Below PI wr W6 := hO6.below (Nat.le_refl _) hb10
      have lP6 : PI < W6.heap.size := HP6.out.lt
      have hBP : w4.heap.size ≤ PI := by have := HB.out.size; omega
      have hb12 := HB.out.trans (hb11.mono hBP)
      have hcf : W6.cell? ⟨g, o + j * 9 + 8, none⟩ = some (.slice A2 np cap2) := laterc (Hc0.out 8 _ rfl) hb12 hg4
      have HB6 := Lib.hid hb11
      clear hS6 hO6 hb10 HP5 hb11 hb12
      obtain ⟨wo, rfl⟩ : ∃ wo : World, wo = wr := ⟨_, rfl⟩
      go_wp2_with fail
      go_loopw [11, 12, 13, 77] (fun vR _ _ i wr => ∃ (k : Nat) (vP : Value), k ≤ np ∧ i = .int .i64 k ∧ Hid (Blk wr PI 32 (N.vals vP)) ∧ Hid (wr.ownsRow W6.heap.size 37 4 vP (keepsTo l V j k).length (mrows ((keepsTo l V j k).map (portAt N)))) ∧ Hid (wr.ownsRow W6.heap.size 3 1 vR (keepsTo l V j k).length (intVals ((keepsTo l V j k).map (roleAt l V j)))) ∧ Hid (W6.heap.size ≤ wr.heap.size) ∧ Hid (Below PI wo wr)) (fun _ _ _ i _ => np - (intOf i).toNat)
      case atStart => exact ⟨0, _, by omega, rfl, HP6, Lib.hid (World.ownsRow_nil _ _ _ _), Lib.hid (World.ownsRow_nil _ _ _ _), Lib.hid (Nat.le_refl _), HB6⟩
      case round =>
        clear HP6 HB6 hcf
        obtain ⟨k, vP, hk, rfl, HP, HOP, HOR, HS6, HB6⟩ := hrel
        by_cases hlk : k < np
        · have hkx : k < N.ports.length := by rw [Hnp.out]; exact hlk
          obtain ⟨g2, o2, rfl, hg2, hc2⟩ := Hrow.out (by rw [List.length_map]; omega)
          have hc3 := hc2 k (by rw [List.length_map]; exact hkx)
          rw [List.getElem_map, ← portAt_eq hkx] at hc3
          have hbw := HB.out.trans (HB6.out.mono hBP)
          have Hc3 := Lib.hid (rangeAt_below hc3 hbw (by omega))
          have hrole : ((rolesM l).getD j []).getD k 0 = roleAt l V j k := Hrgj.out k hlk
          obtain ⟨gI, rfl, hgI, hkI⟩ := HIA.out (by rw [HRlj.out]; omega)
          have hcI := hkI k (by rw [HRlj.out]; exact hlk)
          rw [hrole] at hcI
          obtain ⟨AP, cP, rfl⟩ := own_shape HOP.out
          have hsu := keepsTo_succ (l := l) (V := V) j k
          have hpa : passH l V j k = decide (roleAt l V j k ≠ 3) := rfl
          rw [hpa] at hsu
          have Hsu := Lib.hid hsu
          have hcA2 := laterc HcA.out HB6.out (by omega)
          have hcI2 := laterc hcI HB6.out (by omega)
          have hlen := keepsTo_len (l := l) (V := V) j k
          have lPr : PI < wr.heap.size := HP.out.lt
          have hnl : (keepsTo l V j (k + 1)).length ≤ k + 1 := keepsTo_len j (k + 1)
          have hmk : ∀ X, keepsTo l V j (k + 1) = X → (X.map (portAt N)) = (keepsTo l V j (k + 1)).map (portAt N) := fun X e => by rw [e]
          clear hc2 hc3 hrole hkI hcI hsu hpa hmk hnl
          generalize hρ0 : roleAt l V j k = ρ at *
          generalize hM0 : portAt N k = Mp at *
          generalize hK0 : keepsTo l V j k = K at *
          have Hρ0 := Lib.hid hρ0
          have HM0 := Lib.hid hM0
          clear hρ0 hM0 hK0
          go_upto_region 21 with (first
            | ((with_reducible refine wpList_load_rng (ty := 37) (b := ?b7) (o := ?o7) (ds := ?ds7) Mp.vals ?hx7 ?hB7 ?hu7 ?hd7 ?hi7 ?hk7)
               case hx7 => rfl
               case hB7 => exact Hc3.out
               case hu7 => exact Try.underlying37
               case hd7 => rfl
               case hi7 => exact info37)
            | ((with_reducible refine wpList_store_blk (ty := 37) (b := ?b8) (o := ?o8) (t := 37) zMem Mp.vals ?hx8 ?hy8 ?hB8 ?ho8 ?hi8 ?h18 ?hk8)
               case hx8 => rfl
               case hy8 => rfl
               case hB8 => exact Blk.new wr zMem 37
               case ho8 => exact Nat.le_refl _
               case hi8 => exact info37
               case h18 => exact (Mem.one _)
               intro W7 hBW7 hoW7))
          obtain ⟨hb13, lPM⟩ := Only.fresh hoW7
          have HPM : Hid (Blk W7 wr.heap.size 37 Mp.vals) := hBW7
          have HP7 := Lib.hid (Blk.below HP.out hb13 lPr)
          have HOP7 := Lib.hid (own_below HOP.out hb13 (Nat.le_refl _))
          have HOR7 := Lib.hid (own_below HOR.out hb13 (Nat.le_refl _))
          have hcA3 := laterc hcA2 hb13 (by omega)
          have hcI3 := laterc hcI2 hb13 (by omega)
          have HB7 := Lib.hid (HB6.out.trans (hb13.mono (Nat.le_of_lt lPr)))
          have lS7 : W6.heap.size ≤ W7.heap.size := Nat.le_trans HS6.out hb13.size
          have lPw7 : PI < W7.heap.size := HP7.out.lt
          clear hBW7 hoW7 hb13 HP HOP HOR hcA2 hcI2 HB6 HS6 Hc3 lPr hbw
          generalize wr.heap.size = PM at *
          by_cases hρ : ρ = 3
          · have hke : keepsTo l V j (k + 1) = K := by rw [Hsu.out, hρ]; simp
            subst hρ
            have HOP8 : Hid (W7.ownsRow W6.heap.size 37 4 (.slice AP K.length cP) (keepsTo l V j (k + 1)).length (mrows ((keepsTo l V j (k + 1)).map (portAt N)))) := Lib.hid (by rw [hke]; exact HOP7.out)
            have HOR8 : Hid (W7.ownsRow W6.heap.size 3 1 u11 (keepsTo l V j (k + 1)).length (intVals ((keepsTo l V j (k + 1)).map (roleAt l V j)))) := Lib.hid (by rw [hke]; exact HOR7.out)
            have HS7 := Lib.hid lS7
            clear HOP7 HOR7 HPM hke Hsu
            go_wp2_with fail
            go_roundw
            case rel => exact ⟨k + 1, _, by omega, by go_num, HP7, HOP8, HOR8, HS7, HB7⟩
            case measure => simp [intOf]; omega
          · have hρ2 : (ρ != 3) = true := by simpa using hρ
            have hke : keepsTo l V j (k + 1) = K ++ [k] := by rw [Hsu.out]; simp [hρ]
            have Hke := Lib.hid hke
            have hc8 : W7.cell? ⟨PI, 8, none⟩ = some (.slice AP K.length cP) := HP7.out.box.cell 8
            clear hke Hsu hρ
            go_upto_region 23 with (first
              | ((with_reducible refine wpList_load_rng (ty := 37) (b := ?b9) (o := ?o9) (ds := ?ds9) Mp.vals ?hx9 ?hB9 ?hu9 ?hd9 ?hi9 ?hk9)
                 case hx9 => rfl
                 case hB9 => exact HPM.out.box.range
                 case hu9 => exact Try.underlying37
                 case hd9 => rfl
                 case hi9 => exact info37)
              | ((with_reducible refine wpList_build1 Mp.vals elemMem ?hxbp rfl (by decide) ?_)
                 case hxbp => rfl
                 intro W8 hB8 hb14 lB8
                 have hB8p := Blk.below HP7.out hb14 lPw7
                 have hO8 := own_below HOP7.out hb14 (Nat.le_refl _)
                 have hR8 := own_below HOR7.out hb14 (Nat.le_refl _)
                 refine wpList_append_row (v := .slice AP K.length cP) (base := W6.heap.size) (n := K.length) (m := 1) (c := 1) (g := W7.heap.size) (mrows (K.map (portAt N))) Mp.vals elemMem ?hsqp ?hxqp hO8 hB8.box.range rfl (Mem.one _) ?hmqp ?hbqp (Nat.le_trans lS7 hb14.size) ?hkqp
                 case hsqp => rfl
                 case hxqp => rfl
                 case hmqp => unfold maxLen; omega
                 case hbqp => omega
                 intro v' W9 hown hgrew
                 obtain ⟨AN, cN, rfl⟩ := own_shape hown
                 have hP9 := hgrew.blk hB8p (own_ne hO8 hB8p (by decide))
                 have hR9 := hgrew.own' hO8 hR8 (by decide)
                 have hB9 : Below PI wo W9 := hgrew.below' (HB7.out.trans (hb14.mono (Nat.le_of_lt lPw7))) (Nat.le_of_lt lP6))
              | ((with_reducible refine wpList_store_blk (ty := 30) (b := ?b94) (o := ?o94) (t := 32) (N.vals (.slice AP K.length cP)) [.slice AN (K.length + 1) cN] ?hx94 ?hy94 ?hB94 ?ho94 ?hi94 ?h194 ?hk94)
                 case hx94 => rfl
                 case hy94 => rfl
                 case hB94 => exact hP9
                 case ho94 => exact Nat.le_refl _
                 case hi94 => exact infoSl
                 case h194 => exact fun v hv => by rw [List.mem_singleton.1 hv]; rfl
                 intro W10 hS10 hO10))
            have HP10 : Hid (Blk W10 PI 32 (N.vals (.slice AN (K.length + 1) cN))) := Lib.hid hS10
            have HOP10 := Lib.hid (own_only' hown hO10 lP6)
            have HOR10 := Lib.hid (own_only' hR9 hO10 lP6)
            have HB10 := Lib.hid (hO10.below (Nat.le_refl _) hB9)
            have lS10 : W6.heap.size ≤ W10.heap.size := by
              have h1 := hO10.size
              have h2 := hgrew.grown.size
              have h3 := hb14.size
              omega
            have hcA4 := laterc HcA.out HB10.out (by omega)
            have hcI4 : W10.cell? ⟨gI, k, none⟩ = some (.int .i64 ρ) := by
              have h1 := (HIA.out (by rw [HRlj.out]; omega))
              obtain ⟨g', e1, h2, h3⟩ := h1
              injection e1 with e1
              injection e1 with e1
              subst e1
              have h4 := laterc (h3 k (by rw [HRlj.out]; exact hlk)) HB10.out (by omega)
              rw [Hrgj.out k hlk, Hρ0.out] at h4
              exact h4
            have lP10 : PI < W10.heap.size := HP10.out.lt
            clear hS10 hO10 hB9 hR9 hP9 hgrew hown hB8 hb14 hB8p hO8 hR8 HB7 HOR7 HOP7 HP7 HPM hc8 hcA3 hcI3
            go_upto_region 24 with (first
              | ((with_reducible refine wpList_build1v (e := 3) (size := 1) (bytes := 8) (intVals [ρ]) elemInt ?hxbr ?hlbr (by decide) ?_)
                 case hxbr => rfl
                 case hlbr => rfl
                 intro W11 hB11 hb15 lB11
                 have hB11p := Blk.below HP10.out hb15 lP10
                 have hO11 := own_below HOP10.out hb15 (Nat.le_refl _)
                 have hR11 := own_below HOR10.out hb15 (Nat.le_refl _)
                 refine wpList_append_row (v := u11) (base := W6.heap.size) (n := K.length) (m := 1) (c := 1) (g := W10.heap.size) (intVals (K.map (roleAt l V j))) (intVals [ρ]) elemInt ?hsqr ?hxqr hR11 hB11.box.range rfl (intVals_one _) ?hmqr ?hbqr (Nat.le_trans lS10 hb15.size) ?hkqr
                 case hsqr => rfl
                 case hxqr => rfl
                 case hmqr => unfold maxLen; omega
                 case hbqr => omega
                 intro vr' W12 hown2 hgrew2))
            have HP12 := Lib.hid (hgrew2.blk hB11p (own_ne hR11 hB11p (by decide)))
            have HB12 : Hid (Below PI wo W12) := Lib.hid (hgrew2.below' (HB10.out.trans (hb15.mono (Nat.le_of_lt lP10))) (Nat.le_of_lt lP6))
            have HOP12 : Hid (W12.ownsRow W6.heap.size 37 4 (.slice AN (K.length + 1) cN) (keepsTo l V j (k + 1)).length (mrows ((keepsTo l V j (k + 1)).map (portAt N)))) := Lib.hid (by
              rw [Hke.out, List.map_append, List.length_append, List.map_singleton, HM0.out, mrows_snoc]
              exact hgrew2.own' hR11 hO11 (by decide))
            have HOR12 : Hid (W12.ownsRow W6.heap.size 3 1 vr' (keepsTo l V j (k + 1)).length (intVals ((keepsTo l V j (k + 1)).map (roleAt l V j)))) := Lib.hid (by
              rw [Hke.out, List.map_append, List.length_append, List.map_singleton, Hρ0.out]
              unfold intVals at hown2 ⊢
              rw [List.map_append]; exact hown2)
            have HS12 : Hid (W6.heap.size ≤ W12.heap.size) := Lib.hid (by
              have h2 := hgrew2.grown.size
              have h3 := hb15.size
              omega)
            clear hgrew2 hown2 hR11 hO11 hB11p hb15 hB11 HOP10 HOR10 HP10 HB10 hcA4 hcI4
            go_wp2_with fail
            go_roundw
            case rel => exact ⟨k + 1, _, by omega, by go_num, HP12, HOP12, HOR12, HS12, HB12⟩
            case measure => simp [intOf]; omega
        · obtain rfl : np = k := by omega
          have hkp : keepsTo l V j np = keeps l V j := by unfold keeps; rw [Hnk.out, Hnp.out]
          have hop := HOP.out
          have hor := HOR.out
          rw [hkp] at hop hor
          have HB2 := Lib.hid (HB.out.trans (HB6.out.mono hBP))
          have HO2 := Lib.hid (HO.out.below HB6.out lwo)
          have HW2 := Lib.hid (own_below HW.out HB6.out lwo)
          have HWR2 := Lib.hid (HWR.out.below HB6.out lwo)
          have hLv : ∀ x, (lessN l V j).vals x = N.vals x := fun x => by unfold lessN; rw [Hnk.out]; rfl
          have hLp : (lessN l V j).ports = (keeps l V j).map (portAt N) := by unfold lessN; rw [Hnk.out]
          have hkl : (keeps l V j).length ≤ 8 := by rw [← hkp]; have := keepsTo_len (l := l) (V := V) j np; omega
          have lSw := HS6.out
          have hBQ : w4.heap.size ≤ W6.heap.size := by omega
          clear hkp HOP HOR HB HB6 HO HW HWR HS6
          generalize hkeq : keeps l V j = K at *
          obtain ⟨AP, cP, rfl⟩ := own_shape hop
          obtain ⟨AQ, cQ, e11⟩ := own_shape hor
          subst e11
          have HOP2 := Lib.hid hop
          have HOR2 := Lib.hid hor
          have HLv := Lib.hid hLv
          have HLp := Lib.hid hLp
          have Hkeq := Lib.hid hkeq
          clear hop hor hLv hLp hkeq
          go_upto_region 26 with (first
            | ((with_reducible refine wpList_load_rng (ty := 32) (b := ?b10) (o := ?o10) (ds := ?ds10) (N.vals (.slice AP K.length cP)) ?hx10 ?hB10 ?hu10 ?hd10 ?hi10 ?hk10)
               case hx10 => rfl
               case hB10 => exact HP.out.box.range
               case hu10 => exact Try.underlying32
               case hd10 => rfl
               case hi10 => exact info32)
            | ((with_reducible refine wpList_build1 (N.vals (.slice AP K.length cP)) elemNode ?hxbo rfl (by decide) ?_)
               case hxbo => rfl
               intro W10 hB10 hb14 lB10
               have hO10 := HO2.out.below hb14 (Nat.le_refl _)
               have hlw : w4.heap.size ≤ W10.heap.size := Nat.le_trans HB2.out.size hb14.size
               refine wpList_append_row (v := u7) (base := w4.heap.size) (n := M.length) (m := 1) (c := 1) (g := wr.heap.size) (nrows M) ((lessN l V j).vals (.slice AP K.length cP)) elemNode ?hsqo ?hxqo hO10.row (by rw [HLv.out]; exact hB10.box.range) rfl (Node.one _ _ _ _) ?hmqo ?hbqo hlw ?hkqo
               case hsqo => rfl
               case hxqo => rfl
               case hmqo => have := HMl.out; unfold maxLen; omega
               case hbqo => have := HMl.out; omega
               intro v' W11 hown hgrew
               have hW10 := own_below HW2.out hb14 (Nat.le_refl _)
               have hR10 := own_below HOR2.out hb14 (Nat.le_refl _)
               have hP10 := own_below HOP2.out hb14 (Nat.le_refl _)
               have hWR10 := HWR2.out.below hb14 (Nat.le_refl _)
               have hO11 := OwnNet.snoc (N := lessN l V j) (sv := .slice AP K.length cP) hO10 hown hgrew (by
                 rw [HLp.out, List.length_map]; exact hP10) hBQ
               have hW11 := hgrew.own' hO10.row hW10 (by decide)
               have hR11 := hgrew.own' hO10.row hR10 (by decide)
               have hWR11 := hWR10.grew hgrew hO10.row (by decide)
               have hB11 : Below w4.heap.size w4 W11 := hgrew.below (HB2.out.trans (hb14.mono HB2.out.size)))
            | ((with_reducible refine wpList_build1v (e := 50) (size := 1) (bytes := 24) [.slice AQ K.length cQ] elemInts ?hxbw ?hlbw (by decide) ?_)
               case hxbw => rfl
               case hlbw => rfl
               intro W12 hB12 hb16 lB12
               have hW12 := own_below hW11 hb16 (Nat.le_refl _)
               refine wpList_append_row (v := u8) (base := w4.heap.size) (n := j) (m := 1) (c := 1) (g := W11.heap.size) vs [.slice AQ K.length cQ] elemInts ?hsqw ?hxqw hW12 hB12.box.range rfl (fun u hu => by rw [List.mem_singleton.1 hu]; rfl) ?hmqw ?hbqw (Nat.le_trans hB11.size hb16.size) ?hkqw
               case hsqw => rfl
               case hxqw => rfl
               case hmqw => unfold maxLen; omega
               case hbqw => omega
               intro vw' W13 hownw hgreww))
          have HO13 := Lib.hid ((hO11.below hb16 (Nat.le_refl _)).grew hgreww hW12 (by decide) (by decide))
          have hR13 := hgreww.own' hW12 (own_below hR11 hb16 (Nat.le_refl _)) (by decide)
          have hWR13 := (hWR11.below hb16 (Nat.le_refl _)).grew hgreww hW12 (by decide)
          have HWR14 := Lib.hid (hWR13.snoc (u := .slice AQ K.length cQ) (by
            rw [Hkeq.out, List.length_map]; exact own_base hR13 hBQ))
          have HW13 := Lib.hid hownw
          have HB13 : Hid (Below w4.heap.size w4 W13) := Lib.hid (hgreww.below (hB11.trans (hb16.mono hB11.size)))
          have HM2 : Hid ((M ++ [(lessN l V j, Value.slice AP K.length cP)]).map (fun x => x.1) = (List.range (j + 1)).map (lessN l V)) := Lib.hid (by rw [List.map_append, HM.out, range_snoc]; rfl)
          clear hownw hgreww hR13 hWR13 hW12 hB12 hb16 hB11 hWR11 hR11 hW11 hO11 hWR10 hP10 hR10 hW10 hown hgrew hlw hO10 hB10 hb14 HOP2 HOR2 HWR2 HW2 HO2 HB2 HP
          go_wp2_with fail
          go_roundw
          case rel => exact ⟨j + 1, _, _, by omega, by go_num, HM2, HO13, HW13, HWR14, HB13⟩
          case measure => simp [intOf]; omega
    · obtain rfl : n = j := by omega
      have hms : M.map (·.1) = lessNet l V := by
        rw [HM.out]; unfold lessNet; rw [Hll.out]
      have hlm : (lessNet l V).length = n := by rw [less_len, Hll.out]
      have hMl : M.length = n := by
        have := congrArg List.length hms
        rw [List.length_map, hlm] at this; exact this
      obtain ⟨A2, cap2, hv2, hcap2, hnod⟩ := HO.out.nodesIn
      rw [hMl] at hv2 hcap2
      subst hv2
      have hvm := less_valid (V := V) Hv.out
      have hokM : okTo (M.map (·.1)) n = true := by
        have := okTo_valid hvm
        rw [hlm] at this
        rw [hms]; exact this
      have hpM : PortsOk (M.map (·.1)) := by rw [hms]; exact ports_ok hvm
      have hRm : ∀ W, Below wr.heap.size wr W → Calls Try.prog 19 #[.slice A2 n cap2] W (RolPost W (lessNet l V)) := fun W hb => by
        have := roles_any M A2 n cap2 hMl h12 hcap2 W ((hnod.below hb (Nat.le_refl _)).imp hb.size) hokM hpM
        rw [hms] at this; exact this
      have hSm : ∀ W, Below wr.heap.size wr W → Calls Try.prog 20 #[.slice A2 n cap2] W (SolPost W V) := fun W hb => by
        have := solve_any M A2 n cap2 hMl h12 hcap2 W ((hnod.below hb (Nat.le_refl _)).imp hb.size) hokM hpM
        rw [hms, less_solve Hv.out Hsol.out] at this; exact this
      have hsame : ∀ i, i < n → (rolesM (lessNet l V)).getD i [] = (keeps l V i).map (roleAt l V i) := fun i hi => less_roles Hv.out Hsol.out (by rw [Hll.out]; exact hi)
      have hk8 : ∀ i, i < n → ((keeps l V i).map (roleAt l V i)).length ≤ 8 := fun i hi => by
        rw [List.length_map]
        have h1 : (keeps l V i).length ≤ (nodeAt l i).ports.length := keepsTo_len _ _
        have hx := valid_node Hv.out (i := i) (by rw [Hll.out]; exact hi)
        unfold rightN at hx
        simp only [Bool.and_eq_true, decide_eq_true_eq] at hx
        omega
      have hWA := rows_at HW.out HWR.out
      obtain ⟨AQ, capQ, e8, hcapQ, -⟩ := id hWA
      subst e8
      have hbw := Hb7.out.trans (HB.out.mono lw4)
      have hVA := HVA.out.below HB.out
      generalize lessNet l V = ms at *
      have HR2 := Lib.hid (hRm wr (Below.refl _ _))
      have HSm := Lib.hid hSm
      have Hsame := Lib.hid hsame
      have Hk8 := Lib.hid hk8
      have HWA := Lib.hid hWA
      have Hlm := Lib.hid hlm
      have HVAr := Lib.hid hVA
      have Hbw := Lib.hid hbw
      clear hRm hSm hsame hk8 hWA hlm hVA hbw hnod hokM hpM hMl hvm hms HO HM HW HWR HVA HB HRA4 Hb7 Hl4 Hv Hsol
      go_upto_region 28 with (first
        | ((with_reducible refine HR2.out.mono ?_)
           rintro e w6 ⟨rv, vs6, rfl, hown, hrows, hb8⟩
           rw [Hlm.out] at hown hrows
           have hRB := rows_at hown hrows
           obtain ⟨BR, capB, rfl, hcapB, -⟩ := id hRB)
        )
      have HRB := Lib.hid hRB
      have HWA6 := Lib.hid (HWA.out.below hb8)
      have HVA6 := Lib.hid (HVAr.out.below hb8)
      have HS2 := Lib.hid (HSm.out w6 hb8)
      have Hbw6 := Lib.hid (Hbw.out.trans (hb8.mono Hbw.out.size))
      clear hown hrows hRB HR2 HSm hb8 HWA HVAr Hbw
      go_upto_region 29 with (first
        | ((with_reducible refine HS2.out.mono ?_)
           rintro e w7 ⟨v2, rfl, hown, hb9⟩
           rw [HVl.out] at hown
           have hVB := vecs_at hown HVl.out
           obtain ⟨AW, capW, rfl, hcapW, -⟩ := id hVB)
        )
      have HVB := Lib.hid hVB
      have HWA7 := Lib.hid (HWA6.out.below hb9)
      have HVA7 := Lib.hid (HVA6.out.below hb9)
      have HRB7 := Lib.hid (HRB.out.below hb9)
      have Hbw7 := Lib.hid (Hbw6.out.trans (hb9.mono Hbw6.out.size))
      have HB0 : Hid (Below w7.heap.size w7 w7) := Lib.hid (Below.refl _ _)
      have lw7 : w.heap.size ≤ w7.heap.size := Hbw7.out.size
      clear hown hVB HS2 HWA6 HVA6 HRB hb9 Hbw6
      go_upto_region 31 with (fail)
      go_wp2_with fail
      go_loopw [18, 141] (fun _ i wr => ∃ q : Nat, q ≤ n ∧ i = .int .i64 q ∧ Hid (Below w7.heap.size w7 wr)) (fun _ i _ => n - (intOf i).toNat)
      case atStart => exact ⟨0, by omega, rfl, HB0⟩
      case round =>
        clear HB0
        obtain ⟨q, hq, rfl, HB⟩ := hrel
        by_cases hlq : q < n
        · have hA := HRB7.out.below HB.out
          have hBB := HWA7.out.below HB.out
          obtain ⟨gA, A11, c11, rfl, hgA, hcA, hcc11, hIA⟩ := hA.row hlq
          obtain ⟨gB, A12, c12, rfl, hgB, hcB, hcc12, hIB⟩ := hBB.row hlq
          have hn8 := Hk8.out q hlq
          simp only [Hsame.out q hlq] at hcA hcc11 hIA
          generalize (keeps l V q).map (roleAt l V q) = rl at *
          have HIA := Lib.hid hIA
          have HIB := Lib.hid hIB
          clear hA hBB hIA hIB
          go_upto_region 34 with (fail)
          refine wp_region_ext (by kernel_rfl) (by kernel_rfl) ?_
          repeat (go_big_quiet_step (fail))
          go_big_quiet_step ((go_at_call 21; exact Calls.ext _ (equal_ints rl A11 A12 rl.length c11 c12 rfl (by omega) _ (HIA.out.below (Ext.below _) (Nat.le_refl _)) (HIB.out.below (Ext.below _) (Nat.le_refl _)))))
          repeat (go_big_quiet_step (fail))
          refine wpQuiet_nil ?_
          rintro Y ⟨⟨_, hb20⟩, rfl⟩
          try simp only [] at *
          have HB3 := Lib.hid (HB.out.trans (hb20.mono HB.out.size))
          clear HB hb20 hcA hcB HIA HIB
          go_wp2_with fail
          go_roundw
          case rel => exact ⟨q + 1, by omega, by go_num, HB3⟩
          case measure => simp [intOf]; omega
        · obtain rfl : n = q := by omega
          have hE := equal_vecs V AV AW n capV capW (by omega) wr (HVA7.out.below HB.out) (HVB.out.below HB.out)
          have HE := Lib.hid hE
          have Hfin := Lib.hid (Hbw7.out.trans (HB.out.mono lw7))
          clear HB hE
          go_wp2_with (first
            | ((with_reducible refine HE.out.mono ?_)
               rintro e w9 ⟨rfl, hb20⟩
               skip)
            )
          go_ret
          exact ⟨rfl, Hfin.out.trans (hb20.mono Hfin.out.size)⟩
theorem law_TreeLess (v : Value) (L : List (Node × Value)) (w : World) (h : IsNodes w v L) :
    Calls Try.prog 8 #[v] w fun e w' => e = .returned (.bool true) ∧ Below w.heap.size w w' := by
  obtain ⟨A, n, cap, rfl, hL, hcap, hn, hl⟩ := h
  exact treeLess_any L A n cap hL hn hcap w hl
end Go.Proofs.Ythpgdipcdllfdaa

/- TreeOrder: the walk. -/
import Derived.Test.YthpgdipcdllfdaaRev2
import Derived.Test.YthpgdipcdllfdaaOrder1
import Derived.Test.YthpgdipcdllfdaaScale1
namespace Go.Proofs.Ythpgdipcdllfdaa
open Go.RowKit
theorem revDrop (l : List Node) {q : Nat} (hq : q < l.length) : ((l.drop q).map revN).reverse = ((l.drop (q + 1)).map revN).reverse ++ [revN l[q]] := by
  rw [List.drop_eq_getElem_cons hq, List.map_cons, List.reverse_cons]
theorem rev_roles {l : List Node} (hv : validNet l = true) {i : Nat} (hi : i < l.length) : ((rolesM (revNet l)).getD (l.length - 1 - i) []).reverse = (rolesM l).getD i [] := by
  have e : l.length - 1 - (l.length - 1 - i) = i := by omega
  have hi' : l.length - 1 - i < (revNet l).length := by rw [revNet_len]; omega
  have hp : (nodeAt (revNet l) (l.length - 1 - i)).ports.length = (nodeAt l i).ports.length := by rw [revNet_ports (by omega), e]
  have h1 := rolesM_len l hi
  have h2 := rolesM_len (revNet l) hi'
  refine ints_ext (by rw [List.length_reverse, h1, h2, hp]) fun k hk => ?_
  rw [List.length_reverse, h2, hp] at hk
  rw [List.getD_eq_getElem?_getD, List.getElem?_reverse (by rw [h2, hp]; exact hk), ← List.getD_eq_getElem?_getD, h2, hp, rolesM_get _ hi' (by rw [hp]; omega), rolesM_get l hi hk]
  exact rev_role hv hi hk
set_option maxRecDepth 100000 in
set_option maxHeartbeats 16000000 in
theorem treeOrder_any (L : List (Node × Value)) (A : Option Addr) (n cap : Nat) (hL : L.length = n) (hn : n ≤ 9223372036854775807) (hcap : n ≤ cap) (w : World) (hl : NodesIn w w.heap.size A L) :
    Calls Try.prog 10 #[.slice A n cap] w fun e w' => e = .returned (.bool true) ∧ Below w.heap.size w w' := by
  have hG := grown_any w
  have hN : ∀ W, Below w.heap.size w W → Calls Try.prog 15 #[.slice A n cap] W (NetsPost W (L.map (·.1))) := fun W hb => nets_any L A n cap hL hn hcap W ((hl.below hb (Nat.le_refl _)).imp hb.size)
  have hS : ∀ W, Below w.heap.size w W → n ≤ 12 → okTo (L.map (·.1)) n = true → PortsOk (L.map (·.1)) → Calls Try.prog 20 #[.slice A n cap] W (SolPost W (solveM (L.map (·.1)))) := fun W hb h12 hok hp =>
    solve_any L A n cap hL h12 hcap W ((hl.below hb (Nat.le_refl _)).imp hb.size) hok hp
  have hR : ∀ W, Below w.heap.size w W → n ≤ 12 → okTo (L.map (·.1)) n = true → PortsOk (L.map (·.1)) → Calls Try.prog 19 #[.slice A n cap] W (RolPost W (L.map (·.1))) := fun W hb h12 hok hp =>
    roles_any L A n cap hL h12 hcap W ((hl.below hb (Nat.le_refl _)).imp hb.size) hok hp
  have HG := Lib.hid hG
  have HN := Lib.hid hN
  have HS := Lib.hid hS
  have HR := Lib.hid hR
  have HL := Lib.hid hL
  have Hl := Lib.hid hl
  have hll : (L.map (·.1)).length = n := by rw [List.length_map]; exact hL
  have Hll := Lib.hid hll
  have hnode : ∀ j (hj : j < L.length), nodeAt (L.map (·.1)) j = L[j].1 := fun j hj => by
    unfold nodeAt
    rw [List.getD_eq_getElem?_getD, List.getElem?_map, List.getElem?_eq_getElem hj]; rfl
  have Hnode := Lib.hid hnode
  generalize hl' : L.map (·.1) = l at *
  have Hl' := Lib.hid hl'
  clear hG hN hS hR hL hl hll hnode hl'
  go_enter Try.func10, Try.ntmps10
  go_upto_region 3 with (first
    | ((with_reducible refine HG.out.mono ?_)
       rintro e w1 ⟨rfl, hb1⟩
       skip)
    )
  have HN1 := Lib.hid (HN.out w1 hb1)
  go_upto_region 5 with (first
    | ((with_reducible refine HN1.out.mono ?_)
       rintro e w2 ⟨b, rfl, hyes, hb2⟩
       cases b
       rotate_left
       obtain ⟨h12, hok, hna⟩ := hyes rfl
       have hv := valid_of h12 hok
       rw [Hll.out] at h12 hok)
    )
  rotate_left
  · go_ret
    exact ⟨rfl, hb1.trans (hb2.mono hb1.size)⟩
  have hb3 := hb1.trans (hb2.mono hb1.size)
  have Hv := Lib.hid hv
  have Hok := Lib.hid hok
  have Hna := Lib.hid hna
  clear hyes hna hok hv HG HN HN1 hb1 hb2
  go_wp2_with fail
  go_loopw [3, 4, 5] (fun v i _ wr => ∃ (k : Nat) (M : List (Node × Value)), k ≤ n ∧ i = .int .i64 ((k : Int) - 1) ∧ Hid (M.map (·.1) = ((l.drop k).map revN).reverse) ∧ Hid (OwnNet wr w.heap.size v M) ∧ Below w.heap.size w wr) (fun _ i _ _ => (intOf i + 1).toNat)
  case atStart => exact ⟨n, [], by omega, rfl, Lib.hid (by rw [List.drop_of_length_le (by rw [Hll.out]; exact Nat.le_refl _)]; rfl), Lib.hid (OwnNet.nil _ _), hb3⟩
  case round =>
    clear hb3
    obtain ⟨k1, M, hk, hi1, HM, HO, hbr⟩ := hrel
    rcases Nat.eq_zero_or_pos k1 with h0 | h0
    rotate_left
    · obtain ⟨k, rfl⟩ : ∃ k, k1 = k + 1 := ⟨k1 - 1, by omega⟩
      rw [show (((k + 1 : Nat) : Int) - 1) = (k : Int) by omega] at hi1
      subst hi1
      have hlk : k < n := by omega
      have hkx : k < L.length := by rw [HL.out]; exact hlk
      have hkl : k < l.length := by rw [Hll.out]; exact hlk
      obtain ⟨g, o, rfl, hg, hc⟩ := Hl.out.row (by rw [List.length_map]; omega)
      have hc1 := hc k (by rw [List.length_map]; exact hkx)
      rw [List.getElem_map] at hc1
      have hmm := Hl.out.mems L[k] (List.getElem_mem hkx)
      have hnk := Hnode.out k hkx
      have hMl : M.length = n - (k + 1) := by
        have := congrArg List.length HM.out
        simpa [Hll.out] using this
      have hts := revDrop l hkl
      rw [show l[k] = nodeAt l k from (nodeAt_eq hkl).symm, hnk] at hts
      have hp8 : L[k].1.ports.length ≤ 8 := by
        have hx := valid_node Hv.out (i := k) hkl
        rw [hnk] at hx
        unfold rightN at hx
        simp only [Bool.and_eq_true, decide_eq_true_eq] at hx
        omega
      generalize hN : L[k].1 = N at *
      generalize hS : L[k].2 = sv at *
      have HCl := Lib.hid (fun (W : World) (hb : Below wr.heap.size wr W) => cloneM_any N.ports sv hp8 W ((hmm.below (hbr.trans (hb.mono hbr.size)) (Nat.le_refl _)).imp (hbr.trans (hb.mono hbr.size)).size))
      obtain ⟨A2, cap2, rfl, hcap2, hrow⟩ := hmm
      have Hc1 := Lib.hid (rangeAt_below hc1 hbr hg)
      have Hts := Lib.hid hts
      have HMl := Lib.hid hMl
      clear hc hc1 hN hS hrow hnk hts hMl
      go_upto_region 10 with (first
        | ((with_reducible refine wpList_load_rng (ty := 32) (b := ?b3) (o := ?o3) (ds := ?ds3) (N.vals (.slice A2 N.ports.length cap2)) ?hx3 ?hB3 ?hu3 ?hd3 ?hi3 ?hk3)
           case hx3 => rfl
           case hB3 => exact Hc1.out
           case hu3 => exact Try.underlying32
           case hd3 => rfl
           case hi3 => exact info32)
        | ((with_reducible refine wpList_store_blk (ty := 32) (b := ?b4) (o := ?o4) (t := 32) zNode (N.vals (.slice A2 N.ports.length cap2)) ?hx4 ?hy4 ?hB4 ?ho4 ?hi4 ?h14 ?hk4)
           case hx4 => rfl
           case hy4 => rfl
           case hB4 => exact Blk.new wr zNode 32
           case ho4 => exact Nat.le_refl _
           case hi4 => exact info32
           case h14 => exact (Node.one _ _ _ _)
           intro W4 hBW4 hoW4))
      obtain ⟨hb4, lP⟩ := Only.fresh hoW4
      have HP4 : Hid (Blk W4 wr.heap.size 32 (N.vals (.slice A2 N.ports.length cap2))) := hBW4
      have hc8 : W4.cell? ⟨wr.heap.size, 8, none⟩ = some (.slice A2 N.ports.length cap2) := HP4.out.box.cell 8
      have HC4 := Lib.hid (HCl.out W4 hb4)
      generalize hPI : wr.heap.size = PI at *
      clear hBW4 hoW4 Hc1 HCl
      go_upto_region 11 with (first
        | ((with_reducible refine HC4.out.mono ?_)
           rintro e W5 ⟨cv, rfl, hown, hb5⟩
           obtain ⟨AC, cC, rfl⟩ := own_shape hown
           have hB5 := Blk.below HP4.out hb5 lP)
        | ((with_reducible refine wpList_store_blk (ty := 30) (b := ?b91) (o := ?o91) (t := 32) (N.vals (.slice A2 N.ports.length cap2)) [.slice AC N.ports.length cC] ?hx91 ?hy91 ?hB91 ?ho91 ?hi91 ?h191 ?hk91)
           case hx91 => rfl
           case hy91 => rfl
           case hB91 => exact hB5
           case ho91 => exact Nat.le_refl _
           case hi91 => exact infoSl
           case h191 => exact fun v hv => by rw [List.mem_singleton.1 hv]; rfl
           intro W6 hS6 hO6))
      have lPQ : PI < W4.heap.size := lP
      have hP6 : Blk W6 PI 32 (N.vals (.slice AC N.ports.length cC)) := hS6
      have hown6 := own_only' hown hO6 lP
      have hb6 : Below PI wr W6 := hO6.below (Nat.le_refl _) (hb4.trans (hb5.mono (Nat.le_of_lt lP)))
      have hc9 : W6.cell? ⟨PI, 8, none⟩ = some (.slice AC N.ports.length cC) := hP6.box.cell 8
      generalize hnp : N.ports.length = np at *
      generalize hQ : W4.heap.size = Q at *
      have Hw6 := Lib.hid hown6
      have HP6 := Lib.hid hP6
      have HB6 := Lib.hid hb6
      have lwo : wr.heap.size ≤ PI := by omega
      have hQ0 : w.heap.size ≤ Q := by have := hbr.size; omega
      have hPI0 : w.heap.size ≤ PI := by have := hbr.size; omega
      have Hnp := Lib.hid hnp
      clear hPI hQ hP6 hown6 hb6 hnp hS6 hO6 HC4 hown HP4 hb4 hb5 hB5 hc8
      have HRv := Lib.hid (revM_any N.ports AC cC np Q Hnp.out hp8 W6 Hw6.out)
      have lP6 : PI < W6.heap.size := HP6.out.lt
      go_upto_region 12 with (first
        | ((with_reducible refine HRv.out.mono ?_)
           rintro e W7 ⟨rfl, hown7, gr, hgr, hbut⟩
           skip)
        )
      have HP7 : Hid (Blk W7 PI 32 (N.vals (.slice AC np cC))) := Lib.hid ((hbut.block PI lP6 (by omega)).trans HP6.out)
      have hb7 : Below PI wr W7 := hbut.below HB6.out (by omega) (Nat.le_of_lt lP6)
      have hbw := hbr.trans (hb7.mono hPI0)
      have Hw2 := Lib.hid hown7
      have HO2 := Lib.hid (HO.out.below hb7 lwo)
      clear hown7 hbut HP6 HB6 Hw6 HRv HO hbr lwo hb7 lP6 hc9
      go_upto_region 8 with (first
        | ((with_reducible refine wpList_load_rng (ty := 32) (b := ?b7) (o := ?o7) (ds := ?ds7) (N.vals (.slice AC np cC)) ?hx7 ?hB7 ?hu7 ?hd7 ?hi7 ?hk7)
           case hx7 => rfl
           case hB7 => exact HP7.out.box.range
           case hu7 => exact Try.underlying32
           case hd7 => rfl
           case hi7 => exact info32)
        | ((with_reducible refine wpList_build1 (N.vals (.slice AC np cC)) elemNode ?hxbo rfl (by decide) ?_)
           case hxbo => rfl
           intro W10 hB10 hb14 lB10
           refine wpList_append_row (v := u3) (base := w.heap.size) (n := M.length) (m := 1) (c := 1) (g := W7.heap.size) (nrows M) ((revN N).vals (.slice AC np cC)) elemNode ?hsqo ?hxqo (HO2.out.below hb14 (Nat.le_refl _)).row hB10.box.range rfl (Node.one _ _ _ _) ?hmqo ?hbqo (Nat.le_trans hbw.size hb14.size) ?hkqo
           case hsqo => rfl
           case hxqo => rfl
           case hmqo => have := HMl.out; unfold maxLen; omega
           case hbqo => have := HMl.out; omega
           intro v' w11 hown hgrew))
      have HO3 := Lib.hid (OwnNet.snoc (N := revN N) (sv := .slice AC np cC) (HO2.out.below hb14 (Nat.le_refl _)) hown hgrew (by
        rw [show (revN N).ports.length = np from by rw [revN_len]; exact Hnp.out]
        exact own_below Hw2.out hb14 (Nat.le_refl _)) hQ0)
      have HM2 : Hid ((M ++ [(revN N, Value.slice AC np cC)]).map (fun x => x.1) = ((l.drop k).map revN).reverse) := Lib.hid (by rw [List.map_append, HM.out, Hts.out]; rfl)
      have hb16 := hgrew.below (hbw.trans (hb14.mono hbw.size))
      clear hown hgrew hB10 hb14 hbw HO2 Hw2 HP7
      go_wp2_with fail
      go_roundw
      case rel => exact ⟨k, _, by omega, by go_num, HM2, HO3, hb16⟩
      case measure => simp [intOf]
    · subst h0
      subst hi1
      have hms : M.map (·.1) = revNet l := by
        rw [HM.out, List.drop_zero]; rfl
      have hMl : M.length = n := by
        have := congrArg List.length hms
        rw [List.length_map, revNet_len, Hll.out] at this; exact this
      obtain ⟨A2, cap2, hv2, hcap2, hnod⟩ := HO.out.nodesIn
      rw [hMl] at hv2 hcap2
      subst hv2
      have hlm : (revNet l).length = n := by rw [revNet_len, Hll.out]
      have hvm := rev_valid Hv.out
      have hokM : okTo (M.map (·.1)) n = true := by
        have := okTo_valid hvm
        rw [hlm] at this
        rw [hms]; exact this
      have hpM : PortsOk (M.map (·.1)) := by rw [hms]; exact ports_ok hvm
      have hRm : ∀ W, Below wr.heap.size wr W → Calls Try.prog 19 #[.slice A2 n cap2] W (RolPost W (revNet l)) := fun W hb => by
        have := roles_any M A2 n cap2 hMl h12 hcap2 W ((hnod.below hb (Nat.le_refl _)).imp hb.size) hokM hpM
        rw [hms] at this; exact this
      have hSm : ∀ W, Below wr.heap.size wr W → Calls Try.prog 20 #[.slice A2 n cap2] W (SolPost W (solveM (revNet l))) := fun W hb => by
        have := solve_any M A2 n cap2 hMl h12 hcap2 W ((hnod.below hb (Nat.le_refl _)).imp hb.size) hokM hpM
        rw [hms] at this; exact this
      have hsame : ∀ i, i < n → ((rolesM (revNet l)).getD (n - 1 - i) []).reverse = (rolesM l).getD i [] := fun i hi => by
        have := rev_roles Hv.out (i := i) (by rw [Hll.out]; exact hi)
        rw [Hll.out] at this; exact this
      have hsol : ∀ i, i < n → vecAt (solveM (revNet l)) (n - 1 - i) = vecAt (solveM l) i := fun i hi => by
        have := rev_solve Hv.out (i := n - 1 - i) (by rw [Hll.out]; omega)
        rw [Hll.out, show n - 1 - (n - 1 - i) = i by omega] at this; exact this
      have hvl : (solveM l).length = n := by unfold solveM; rw [rounds_len, Hll.out]
      have hvl2 : (solveM (revNet l)).length = n := by unfold solveM; rw [rounds_len, hlm]
      have hp8 : ∀ i, i < n → ((rolesM (revNet l)).getD i []).length ≤ 8 := fun i hi => by
        rw [rolesM_len _ (by rw [hlm]; exact hi)]
        have hx := valid_node hvm (i := i) (by rw [hlm]; exact hi)
        unfold rightN at hx
        simp only [Bool.and_eq_true, decide_eq_true_eq] at hx
        exact hx.1.1.1
      have hR0 := HR.out
      have hS0 := HS.out
      generalize revNet l = ms at *
      generalize solveM l = V at *
      generalize solveM ms = V2 at *
      have HRm := Lib.hid hRm
      have HSm := Lib.hid hSm
      have Hsame := Lib.hid hsame
      have Hsol := Lib.hid hsol
      have HVl := Lib.hid hvl
      have HVl2 := Lib.hid hvl2
      have Hp8 := Lib.hid hp8
      have Hlm := Lib.hid hlm
      have HR1 := Lib.hid (hR0 wr hbr h12 Hok.out (netAt_ports Hna.out))
      have HS0 := Lib.hid hS0
      clear hRm hSm hsame hsol hvl hvl2 hp8 hlm hR0 hS0 HR HS hnod hokM hpM hMl hvm hms HO HM
      go_upto_region 14 with (first
        | ((with_reducible refine HR1.out.mono ?_)
           rintro e w6 ⟨rv, vs, rfl, hown, hrows, hb7⟩
           rw [Hll.out] at hown hrows
           have hRA := rows_at hown hrows
           obtain ⟨AR, capR, rfl, hcapR, -⟩ := id hRA)
        )
      have HRA := Lib.hid hRA
      have hb8 := hbr.trans (hb7.mono hbr.size)
      have HR2 := Lib.hid (HRm.out w6 hb7)
      clear hown hrows hRA HR1
      go_upto_region 15 with (first
        | ((with_reducible refine HR2.out.mono ?_)
           rintro e w7 ⟨rv2, vs2, rfl, hown, hrows, hb10⟩
           rw [Hlm.out] at hown hrows
           have hRB := rows_at hown hrows
           obtain ⟨BR, capB, rfl, hcapB, -⟩ := id hRB)
        )
      have HRB := Lib.hid hRB
      have HRA7 := Lib.hid (HRA.out.below hb10)
      have hb11 := hb8.trans (hb10.mono hb8.size)
      have hb12 := hb7.trans (hb10.mono hb7.size)
      have HS1 := Lib.hid (HS0.out w7 hb11 h12 Hok.out (netAt_ports Hna.out))
      clear hown hrows hRB HR2 HRm hb8 HS0 HRA hb7 hb10
      go_upto_region 16 with (first
        | ((with_reducible refine HS1.out.mono ?_)
           rintro e w8 ⟨v, rfl, hown, hb13⟩
           rw [HVl.out] at hown
           have hVA := vecs_at hown HVl.out
           obtain ⟨AV, capV, rfl, hcapV, -⟩ := id hVA)
        )
      have HVA := Lib.hid hVA
      have HRA8 := Lib.hid (HRA7.out.below hb13)
      have HRB8 := Lib.hid (HRB.out.below hb13)
      have hb14 := hb12.trans (hb13.mono hb12.size)
      have hb15 := hb11.trans (hb13.mono hb11.size)
      have HS2 := Lib.hid (HSm.out w8 hb14)
      clear hown hVA hb12 HS1 hb14 HSm HRA7 HRB hb13 hb11
      go_upto_region 17 with (first
        | ((with_reducible refine HS2.out.mono ?_)
           rintro e w9 ⟨v2, rfl, hown, hb16⟩
           rw [HVl2.out] at hown
           have hVB := vecs_at hown HVl2.out
           obtain ⟨AW, capW, rfl, hcapW, -⟩ := id hVB)
        )
      have HVB := Lib.hid hVB
      have HRA9 := Lib.hid (HRA8.out.below hb16)
      have HRB9 := Lib.hid (HRB8.out.below hb16)
      have HVA9 := Lib.hid (HVA.out.below hb16)
      have hb17 := hb15.trans (hb16.mono hb15.size)
      have Hb17 := Lib.hid hb17
      have HB0 : Hid (Below w9.heap.size w9 w9) := Lib.hid (Below.refl _ _)
      have lw9 : w.heap.size ≤ w9.heap.size := hb17.size
      clear hown hVB HS2 HRA8 HRB8 HVA hb15 hb16 hb17 hbr Hnode Hl' Hna Hok Hv
      go_upto_region 19 with (fail)
      go_wp2_with fail
      go_loopw [14, 15, 107] (fun _ _ i wr => ∃ q : Nat, q ≤ n ∧ i = .int .i64 q ∧ Hid (Below w9.heap.size w9 wr)) (fun _ _ i _ => n - (intOf i).toNat)
      case atStart => exact ⟨0, by omega, rfl, HB0⟩
      case round =>
        clear HB0
        obtain ⟨q, hq, rfl, HB⟩ := hrel
        by_cases hlq : q < n
        · have hm : n - 1 - q < n := by omega
          have hnm : ((n : Int) - 1 - (q : Int)) = ((n - 1 - q : Nat) : Int) := by omega
          have hA := HRA9.out.below HB.out
          have hBB := HRB9.out.below HB.out
          have hVA := HVA9.out.below HB.out
          have hVB := HVB.out.below HB.out
          obtain ⟨gA, A11, c11, rfl, hgA, hcA, hcc11, hIA⟩ := hA.row hlq
          obtain ⟨gB, A12, c12, rfl, hgB, hcB, hcc12, hIB⟩ := hBB.row hm
          obtain ⟨A9, c9, e9, hc9, hv9⟩ := hVA
          injection e9 with e91 _ e93
          subst e91 e93
          obtain ⟨gV, rfl, hgV, hrV⟩ := hv9 (by omega)
          obtain ⟨A10, c10, e10, hc10, hv10⟩ := hVB
          injection e10 with e101 _ e103
          subst e101 e103
          obtain ⟨gW, rfl, hgW, hrW⟩ := hv10 (by omega)
          have hrV := hrV q hlq
          have hrW := hrW (n - 1 - q) hm
          rw [Hsol.out q hlq] at hrW
          have hs := Hsame.out q hlq
          have hn8 := Hp8.out (n - 1 - q) hm
          rw [← hs] at hcA hIA hcc11
          generalize (rolesM ms).getD (n - 1 - q) [] = rl at *
          generalize vecAt V q = x1 at *
          rw [List.length_reverse] at hcA hcc11
          have HIA := Lib.hid hIA
          have HrV := Lib.hid hrV
          have HrW := Lib.hid hrW
          have HCl := Lib.hid (clone_ints rl A12 rl.length c12 rfl (by omega) wr hIB)
          clear hA hBB hIA hIB hs hrV hrW hv9 hv10
          go_upto_region 23 with (first
            | ((with_reducible refine HCl.out.mono ?_)
               rintro e X1 ⟨cv, rfl, hownx, hbx⟩
               obtain ⟨AX, cX, rfl⟩ := own_shape hownx)
            )
          have HRv := Lib.hid (rev_ints rl AX rl.length cX wr.heap.size rfl (by omega) X1 hownx)
          have hlX : wr.heap.size ≤ X1.heap.size := hbx.size
          clear hownx HCl
          go_upto_region 24 with (first
            | ((with_reducible refine HRv.out.mono ?_)
               rintro e X2 ⟨rfl, hownx, gx, hgx, hbut⟩
               skip)
            )
          have hb2 : Below wr.heap.size wr X2 := hbut.below hbx hgx hlX
          have hcA2 := laterc hcA hb2 hgA
          have HIA2 := Lib.hid (HIA.out.below hb2 (Nat.le_refl _))
          have hIX : IntsAt X2 AX rl.reverse := fun h0 => by
            rw [List.length_reverse] at h0
            obtain ⟨A', c', e', _, hk⟩ := own_ints_at hownx (List.length_reverse.symm)
            injection e' with e1 _ e3
            subst e1 e3
            obtain ⟨g', e2, hg', hk'⟩ := hk h0
            exact ⟨g', e2, hg', fun k hk => hk' k (by rw [List.length_reverse] at hk; exact hk)⟩
          have HIX := Lib.hid hIX
          have HrV2 := Lib.hid (rangeAt_below HrV.out hb2 hgV)
          have HrW2 := Lib.hid (rangeAt_below HrW.out hb2 hgW)
          have lA : gA < X2.heap.size := Nat.lt_of_lt_of_le hgA hb2.size
          have lV : gV < X2.heap.size := Nat.lt_of_lt_of_le hgV hb2.size
          have lW : gW < X2.heap.size := Nat.lt_of_lt_of_le hgW hb2.size
          have HB2 := Lib.hid (HB.out.trans (hb2.mono HB.out.size))
          have E1 : ∀ (W : World), (binOp .neq 48 (.agg x1.vals.toArray) (.agg x1.vals.toArray)).run Try.prog W = .ok (.bool false) W := fun W => by
            have := vec_neq x1 x1 W
            simpa using this
          have G1 : ∀ (x y : Operand) (W : World), (eqGuard .neq 48 x y (.agg x1.vals.toArray) (.agg x1.vals.toArray)).run Try.prog W = .ok () W := fun x y W => vec_guard .neq _ _ x y W
          clear hownx hbut hbx hb2 hcA hcB HIA hIX HrV HrW HB HRv hgA hgB hgV hgW
          refine wp_region_ext (by kernel_rfl) (by kernel_rfl) ?_
          repeat (go_big_quiet_step (fail))
          go_big_quiet_step ((go_at_call 21; exact Calls.ext _ (equal_ints rl.reverse A11 AX rl.length c11 cX (by simp) (by omega) _ (HIA2.out.below (Ext.below _) (Nat.le_refl _)) (HIX.out.below (Ext.below _) (Nat.le_refl _)))))
          repeat (go_big_quiet_step (fail))
          go_big_quiet_want
          with_reducible refine quiet_load_rng (b := ?b14) (off := ?o14) (ds := ?ds14) x1.vals ?hx14 ?hr14 ?hu14 ?hd14 ?hi14 ?hk14
          case hx14 => rfl
          case hr14 => rintro _ ⟨y, rfl⟩; exact rangeAt_below HrV2.out y.below lV
          case hu14 => exact Try.underlying48
          case hd14 => rfl
          case hi14 => exact info48
          go_simp
          go_big_quiet_on
          repeat (go_big_quiet_step (fail))
          go_big_quiet_want
          with_reducible refine quiet_load_rng (b := ?b15) (off := ?o15) (ds := ?ds15) x1.vals ?hx15 ?hr15 ?hu15 ?hd15 ?hi15 ?hk15
          case hx15 => rfl
          case hr15 => rintro _ ⟨y, rfl⟩; exact rangeAt_below HrW2.out y.below lW
          case hu15 => exact Try.underlying48
          case hd15 => rfl
          case hi15 => exact info48
          go_simp
          go_big_quiet_on
          repeat (go_big_quiet_step (fail))
          refine wpQuiet_nil ?_
          rintro Y ⟨⟨_, hb20⟩, rfl⟩
          try simp only [] at *
          have HB3 := Lib.hid (HB2.out.trans (hb20.mono HB2.out.size))
          clear HB2 hb20 hcA2 E1 G1 HIA2 HIX HrV2 HrW2
          go_wp2_with fail
          go_roundw
          case rel => exact ⟨q + 1, by omega, by go_num, HB3⟩
          case measure => simp [intOf]; omega
        · obtain rfl : n = q := by omega
          have hfin := Hb17.out.trans (HB.out.mono lw9)
          clear HB
          go_wp2_with fail
          go_ret
          exact ⟨rfl, hfin⟩
theorem law_TreeOrder (v : Value) (L : List (Node × Value)) (w : World) (h : IsNodes w v L) :
    Calls Try.prog 10 #[v] w fun e w' => e = .returned (.bool true) ∧ Below w.heap.size w w' := by
  obtain ⟨A, n, cap, rfl, hL, hcap, hn, hl⟩ := h
  exact treeOrder_any L A n cap hL hn hcap w hl
end Go.Proofs.Ythpgdipcdllfdaa

/- TreeScale: the walk. -/
import Derived.Test.YthpgdipcdllfdaaBut
import Derived.Test.YthpgdipcdllfdaaScale1
namespace Go.Proofs.Ythpgdipcdllfdaa
open Go.RowKit
/-- So many of them scaled. -/
def scTo (b : Int) (ms : List Mem) (k : Nat) : List Mem := (ms.take k).map (scM b) ++ ms.drop k
theorem scTo_len (b : Int) (ms : List Mem) (k : Nat) : (scTo b ms k).length = ms.length := by simp [scTo]; omega
theorem scTo_zero (b : Int) (ms : List Mem) : scTo b ms 0 = ms := by simp [scTo]
theorem scTo_end (b : Int) (ms : List Mem) : scTo b ms ms.length = ms.map (scM b) := by simp [scTo]
theorem scTo_at (b : Int) (ms : List Mem) {k : Nat} (hk : k < ms.length) : (scTo b ms k)[k]'(by rw [scTo_len]; exact hk) = ms[k] := by
  unfold scTo
  rw [List.getElem_append_right (by simp; omega)]
  simp only [List.getElem_drop]
  congr 1
  simp; omega
theorem scTo_set (b : Int) (ms : List Mem) {k : Nat} (hk : k < ms.length) : (scTo b ms k).set k { ms[k] with cost := ms[k].cost * b } = scTo b ms (k + 1) := by
  unfold scTo
  rw [List.set_append_right _ _ (by simp; omega), List.take_succ_eq_append_getElem hk, List.map_append, List.append_assoc]
  congr 1
  have e : k - ((ms.take k).map (scM b)).length = 0 := by simp; omega
  rw [e, List.drop_eq_getElem_cons hk, List.set_cons_zero]; rfl
def scVTo (b : Int) (V : List Vec) (k : Nat) : List Vec := (V.take k).map (scV b) ++ V.drop k
theorem scVTo_len (b : Int) (V : List Vec) (k : Nat) : (scVTo b V k).length = V.length := by simp [scVTo]; omega
theorem scVTo_zero (b : Int) (V : List Vec) : scVTo b V 0 = V := by simp [scVTo]
theorem scVTo_at (b : Int) (V : List Vec) {k : Nat} (hk : k < V.length) : (scVTo b V k)[k]'(by rw [scVTo_len]; exact hk) = V[k] := by
  unfold scVTo
  rw [List.getElem_append_right (by simp; omega)]
  simp only [List.getElem_drop]
  congr 1
  simp; omega
theorem scVTo_set (b : Int) (V : List Vec) {k : Nat} (hk : k < V.length) : (scVTo b V k).set k { V[k] with cost := V[k].cost * b } = scVTo b V (k + 1) := by
  unfold scVTo
  rw [List.set_append_right _ _ (by simp; omega), List.take_succ_eq_append_getElem hk, List.map_append, List.append_assoc]
  congr 1
  have e : k - ((V.take k).map (scV b)).length = 0 := by simp; omega
  rw [e, List.drop_eq_getElem_cons hk, List.set_cons_zero]; rfl
theorem map_take_succ {α β : Type} (f : α → β) (l : List α) {k : Nat} (hk : k < l.length) : (l.take (k + 1)).map f = (l.take k).map f ++ [f l[k]] := by
  rw [List.take_succ_eq_append_getElem hk, List.map_append]; rfl
set_option maxRecDepth 100000 in
set_option maxHeartbeats 16000000 in
theorem treeScale_any (L : List (Node × Value)) (A : Option Addr) (n cap : Nat) (x : Int) (hL : L.length = n) (hn : n ≤ 9223372036854775807) (hcap : n ≤ cap) (w : World) (hl : NodesIn w w.heap.size A L) :
    Calls Try.prog 3 #[.slice A n cap, .int .i64 x] w fun e w' => e = .returned (.bool true) ∧ Below w.heap.size w w' := by
  have hG := grown_any w
  have hN : ∀ W, Below w.heap.size w W → Calls Try.prog 15 #[.slice A n cap] W (NetsPost W (L.map (·.1))) := fun W hb => nets_any L A n cap hL hn hcap W ((hl.below hb (Nat.le_refl _)).imp hb.size)
  have hS : ∀ W, Below w.heap.size w W → n ≤ 12 → okTo (L.map (·.1)) n = true → PortsOk (L.map (·.1)) → Calls Try.prog 20 #[.slice A n cap] W (SolPost W (solveM (L.map (·.1)))) := fun W hb h12 hok hp =>
    solve_any L A n cap hL h12 hcap W ((hl.below hb (Nat.le_refl _)).imp hb.size) hok hp
  have hR : ∀ W, Below w.heap.size w W → n ≤ 12 → okTo (L.map (·.1)) n = true → PortsOk (L.map (·.1)) → Calls Try.prog 19 #[.slice A n cap] W (RolPost W (L.map (·.1))) := fun W hb h12 hok hp =>
    roles_any L A n cap hL h12 hcap W ((hl.below hb (Nat.le_refl _)).imp hb.size) hok hp
  have HG := Lib.hid hG
  have HN := Lib.hid hN
  have HS := Lib.hid hS
  have HR := Lib.hid hR
  have HL := Lib.hid hL
  have Hl := Lib.hid hl
  have hll : (L.map (·.1)).length = n := by rw [List.length_map]; exact hL
  have Hll := Lib.hid hll
  have hnode : ∀ j (hj : j < L.length), nodeAt (L.map (·.1)) j = L[j].1 := fun j hj => by
    unfold nodeAt
    rw [List.getD_eq_getElem?_getD, List.getElem?_map, List.getElem?_eq_getElem hj]; rfl
  have Hnode := Lib.hid hnode
  generalize hl' : L.map (·.1) = l at *
  have Hl' := Lib.hid hl'
  clear hG hN hS hR hL hl hll hnode hl'
  go_enter Try.func3, Try.ntmps3
  go_upto_region 3 with (first
    | ((with_reducible refine HG.out.mono ?_)
       rintro e w1 ⟨rfl, hb1⟩
       skip)
    )
  have HN1 := Lib.hid (HN.out w1 hb1)
  go_upto_region 5 with (first
    | ((with_reducible refine HN1.out.mono ?_)
       rintro e w2 ⟨b, rfl, hyes, hb2⟩
       cases b
       rotate_left
       obtain ⟨h12, hok, hna⟩ := hyes rfl
       have hv := valid_of h12 hok
       rw [Hll.out] at h12 hok)
    )
  rotate_left
  · go_ret
    exact ⟨rfl, hb1.trans (hb2.mono hb1.size)⟩
  have hb3 := hb1.trans (hb2.mono hb1.size)
  have Hv := Lib.hid hv
  have Hok := Lib.hid hok
  have Hna := Lib.hid hna
  clear hyes hna hok hv HG HN HN1 hb1 hb2
  have hpk : ∀ W, Calls Try.prog 16 #[.int .i64 x, .int .i64 1000] W fun e w' => e = .returned (.int .i64 (pickN x 1000 : Nat)) ∧ W = w' := fun W => pick_any x 1000 W (by omega) (by omega)
  have hp := pickN_lt x 1000 (by omega)
  generalize pickN x 1000 = p at *
  have HPK := Lib.hid hpk
  clear hpk
  go_upto_region 7 with (first
    | ((with_reducible refine (HPK.out _).mono ?_)
       rintro e w' ⟨rfl, rfl⟩))
  clear HPK
  obtain ⟨b, hb1, hb2, hbp⟩ : ∃ b : Int, 1 ≤ b ∧ b ≤ 1000 ∧ 1 + (p : Int) = b := ⟨1 + p, by omega, by omega, rfl⟩
  rw [hbp]
  clear hbp hp
  go_wp2_with fail
  go_loopw [5, 7, 8, 28, 39] (fun v _ _ i _ wr => ∃ (k : Nat) (M : List (Node × Value)), k ≤ n ∧ i = .int .i64 k ∧ Hid (M.map (·.1) = (l.take k).map (scN b)) ∧ Hid (OwnNet wr w.heap.size v M) ∧ Below w.heap.size w wr) (fun _ _ _ i _ _ => n - (intOf i).toNat)
  case atStart => exact ⟨0, [], by omega, rfl, Lib.hid rfl, Lib.hid (OwnNet.nil _ _), hb3⟩
  case round =>
    clear hb3
    obtain ⟨k, M, hk, rfl, HM, HO, hbr⟩ := hrel
    by_cases hlk : k < n
    · have hkx : k < L.length := by rw [HL.out]; exact hlk
      have hkl : k < l.length := by rw [Hll.out]; exact hlk
      obtain ⟨g, o, rfl, hg, hc⟩ := Hl.out.row (by rw [List.length_map]; omega)
      have hc1 := hc k (by rw [List.length_map]; exact hkx)
      rw [List.getElem_map] at hc1
      have hmm := Hl.out.mems L[k] (List.getElem_mem hkx)
      have hnk := Hnode.out k hkx
      have hMl : M.length = k := by
        have := congrArg List.length HM.out
        simpa [Nat.min_eq_left (by omega : k ≤ l.length)] using this
      have hts := map_take_succ (scN b) l hkl
      rw [show l[k] = nodeAt l k from (nodeAt_eq hkl).symm, hnk] at hts
      have hp8 : L[k].1.ports.length ≤ 8 := by
        have hx := valid_node Hv.out (i := k) hkl
        rw [hnk] at hx
        unfold rightN at hx
        simp only [Bool.and_eq_true, decide_eq_true_eq] at hx
        omega
      have hpo := netAt_ports Hna.out k
      have hpc : ∀ q, q < L[k].1.ports.length → 1 ≤ (portAt L[k].1 q).cost ∧ (portAt L[k].1 q).cost ≤ 200000000 := fun q hq => by
        have := hpo q hkl (by rw [hnk]; exact hq)
        unfold memAt at this
        rw [hnk] at this
        exact this
      generalize hN : L[k].1 = N at *
      generalize hS : L[k].2 = sv at *
      have HCl := Lib.hid (fun (W : World) (hb : Below wr.heap.size wr W) => cloneM_any N.ports sv hp8 W ((hmm.below (hbr.trans (hb.mono hbr.size)) (Nat.le_refl _)).imp (hbr.trans (hb.mono hbr.size)).size))
      obtain ⟨A2, cap2, rfl, hcap2, hrow⟩ := hmm
      have Hc1 := Lib.hid (rangeAt_below hc1 hbr hg)
      have Hts := Lib.hid hts
      have Hpc := Lib.hid hpc
      have HMl := Lib.hid hMl
      clear hc hc1 hN hS hrow hnk hts hpo hpc hMl
      go_upto_region 10 with (first
        | ((with_reducible refine wpList_load_rng (ty := 32) (b := ?b3) (o := ?o3) (ds := ?ds3) (N.vals (.slice A2 N.ports.length cap2)) ?hx3 ?hB3 ?hu3 ?hd3 ?hi3 ?hk3)
           case hx3 => rfl
           case hB3 => exact Hc1.out
           case hu3 => exact Try.underlying32
           case hd3 => rfl
           case hi3 => exact info32)
        | ((with_reducible refine wpList_store_blk (ty := 32) (b := ?b4) (o := ?o4) (t := 32) zNode (N.vals (.slice A2 N.ports.length cap2)) ?hx4 ?hy4 ?hB4 ?ho4 ?hi4 ?h14 ?hk4)
           case hx4 => rfl
           case hy4 => rfl
           case hB4 => exact Blk.new wr zNode 32
           case ho4 => exact Nat.le_refl _
           case hi4 => exact info32
           case h14 => exact (Node.one _ _ _ _)
           intro W4 hBW4 hoW4))
      obtain ⟨hb4, lP⟩ := Only.fresh hoW4
      have HP4 : Hid (Blk W4 wr.heap.size 32 (N.vals (.slice A2 N.ports.length cap2))) := hBW4
      have hc8 : W4.cell? ⟨wr.heap.size, 8, none⟩ = some (.slice A2 N.ports.length cap2) := HP4.out.box.cell 8
      have HC4 := Lib.hid (HCl.out W4 hb4)
      generalize hPI : wr.heap.size = PI at *
      clear hBW4 hoW4 Hc1 HCl
      go_upto_region 11 with (first
        | ((with_reducible refine HC4.out.mono ?_)
           rintro e W5 ⟨cv, rfl, hown, hb5⟩
           obtain ⟨AC, cC, rfl⟩ := own_shape hown
           have hB5 := Blk.below HP4.out hb5 lP)
        | ((with_reducible refine wpList_store_blk (ty := 30) (b := ?b91) (o := ?o91) (t := 32) (N.vals (.slice A2 N.ports.length cap2)) [.slice AC N.ports.length cC] ?hx91 ?hy91 ?hB91 ?ho91 ?hi91 ?h191 ?hk91)
           case hx91 => rfl
           case hy91 => rfl
           case hB91 => exact hB5
           case ho91 => exact Nat.le_refl _
           case hi91 => exact infoSl
           case h191 => exact fun v hv => by rw [List.mem_singleton.1 hv]; rfl
           intro W6 hS6 hO6))
      have hP6 : Blk W6 PI 32 (N.vals (.slice AC N.ports.length cC)) := hS6
      have hown6 := own_only' hown hO6 lP
      have hb6 : Below PI wr W6 := hO6.below (Nat.le_refl _) (hb4.trans (hb5.mono (Nat.le_of_lt lP)))
      have hc9 : W6.cell? ⟨PI, 8, none⟩ = some (.slice AC N.ports.length cC) := hP6.box.cell 8
      generalize hnp : N.ports.length = np at *
      generalize hQ : W4.heap.size = Q at *
      have Hw6 := Lib.hid hown6
      have HP6 := Lib.hid hP6
      have HB6 := Lib.hid hb6
      have lwo : wr.heap.size ≤ PI := by omega
      have hQ0 : w.heap.size ≤ Q := by have := hbr.size; omega
      have hPI0 : w.heap.size ≤ PI := by have := hbr.size; omega
      have Hnp := Lib.hid hnp
      clear hPI hQ hP6 hown6 hb6 hnp hS6 hO6 HC4 hown HP4 hb4 hb5 hB5 hc8
      obtain ⟨wo, rfl⟩ : ∃ wo : World, wo = wr := ⟨_, rfl⟩
      go_wp2_with fail
      go_loopw [8, 39] (fun _ i wr => ∃ q : Nat, q ≤ np ∧ i = .int .i64 q ∧ Hid (wr.ownsRow Q 37 4 (.slice AC np cC) np (mrows (scTo b N.ports q))) ∧ Hid (Blk wr PI 32 (N.vals (.slice AC np cC))) ∧ Hid (Below PI wo wr)) (fun _ i _ => np - (intOf i).toNat)
      case atStart => exact ⟨0, by omega, rfl, by rw [scTo_zero]; exact Hw6, HP6, HB6⟩
      case round =>
        clear Hw6 HP6 HB6 hc9
        obtain ⟨q, hq, rfl, Hw, HP, HB⟩ := hrel
        by_cases hlq : q < np
        · have hqx : q < N.ports.length := by rw [Hnp.out]; exact hlq
          have hl4 : (scTo b N.ports q).length = np := by rw [scTo_len]; exact Hnp.out
          obtain ⟨gc, cc, e0, _, hgQ, hgl, hcs⟩ := own_cells Hw.out (by omega)
          injection e0 with e1 _ e2
          subst e1 e2
          have hcost : wr.cell? ⟨gc, q * 4 + 2, none⟩ = some (.int .i64 N.ports[q].cost) := by
            rw [hcs (q * 4 + 2) (by omega)]
            unfold mrows
            rw [flat_at (s := 4) (by omega) (fun c hc => by obtain ⟨m, _, rfl⟩ := List.mem_map.1 hc; rfl), show (q * 4 + 2) / 4 = q by omega, show (q * 4 + 2) % 4 = 2 by omega, List.getElem?_map, List.getElem?_eq_getElem (l := scTo b N.ports q) (i := q) (by omega), scTo_at b N.ports hqx]; rfl
          obtain ⟨L0, hBl, hol, hset⟩ := own_set1 Hw.out (o := q * 4 + 2) (by omega) (.int .i64 (N.ports[q].cost * b))
          have hpc := Hpc.out q hlq
          rw [portAt_eq hqx] at hpc
          have hmul1 : 0 ≤ N.ports[q].cost * b := Int.mul_nonneg (by omega) (by omega)
          have hmul2 : N.ports[q].cost * b ≤ 200000000 * 1000 := Int.mul_le_mul hpc.2 hb2 (by omega) (by omega)
          have hms : (mrows (scTo b N.ports q)).set (q * 4 + 2) (.int .i64 (N.ports[q].cost * b)) = mrows (scTo b N.ports (q + 1)) := by
            rw [mrows_set _ (by omega), scTo_at b N.ports hqx, scTo_set b N.ports hqx]
          have hc9 : wr.cell? ⟨PI, 8, none⟩ = some (.slice (some ⟨gc, 0, none⟩) np cC) := HP.out.box.cell 8
          rw [hms] at hset
          have Hset := Lib.hid hset
          have HBl := Lib.hid hBl
          have lQ : PI < gc := by omega
          clear hcs hms hset hBl hl4 hpc Hw
          generalize N.ports[q].cost = c0 at *
          go_upto_region 15 with (first
            | ((with_reducible refine wpList_store_blk (ty := 3) (b := ?b92) (o := ?o92) (t := 37) L0 [.int .i64 (c0 * b)] ?hx92 ?hy92 ?hB92 ?ho92 ?hi92 ?h192 ?hk92)
               case hx92 => rfl
               case hy92 => rfl
               case hB92 => exact HBl.out
               case ho92 => exact hol
               case hi92 => exact infoI
               case h192 => exact fun v hv => by rw [List.mem_singleton.1 hv]; rfl
               intro W8 hS8 hO8))
          have HO8 := Lib.hid (Hset.out W8 hS8)
          have HP8 := Lib.hid (HP.out.only hO8 (by omega))
          have HB8 := Lib.hid (hO8.below (Nat.le_of_lt lQ) HB.out)
          clear hS8 hO8 Hset HBl HP HB hcost hc9 hmul1 hmul2
          go_wp2_with fail
          go_roundw
          case rel => exact ⟨q + 1, by omega, by go_num, HO8, HP8, HB8⟩
          case measure => simp [intOf]; omega
        · obtain rfl : np = q := by omega
          have hbw := hbr.trans (HB.out.mono hPI0)
          have hw := Hw.out
          rw [show scTo b N.ports np = N.ports.map (scM b) from by rw [← Hnp.out, scTo_end]] at hw
          have Hw2 := Lib.hid hw
          have HO2 := Lib.hid (HO.out.below HB.out lwo)
          clear hw Hw HO HB hbr lwo
          go_upto_region 17 with (first
            | ((with_reducible refine wpList_load_rng (ty := 32) (b := ?b6) (o := ?o6) (ds := ?ds6) (N.vals (.slice AC np cC)) ?hx6 ?hB6 ?hu6 ?hd6 ?hi6 ?hk6)
               case hx6 => rfl
               case hB6 => exact HP.out.box.range
               case hu6 => exact Try.underlying32
               case hd6 => rfl
               case hi6 => exact info32)
            | ((with_reducible refine wpList_build1 (N.vals (.slice AC np cC)) elemNode ?hxbo rfl (by decide) ?_)
               case hxbo => rfl
               intro W10 hB10 hb14 lB10
               refine wpList_append_row (v := u5) (base := w.heap.size) (n := M.length) (m := 1) (c := 1) (g := wr.heap.size) (nrows M) ((scN b N).vals (.slice AC np cC)) elemNode ?hsqo ?hxqo (HO2.out.below hb14 (Nat.le_refl _)).row hB10.box.range rfl (Node.one _ _ _ _) ?hmqo ?hbqo (Nat.le_trans hbw.size hb14.size) ?hkqo
               case hsqo => rfl
               case hxqo => rfl
               case hmqo => have := HMl.out; unfold maxLen; omega
               case hbqo => have := HMl.out; omega
               intro v' w11 hown hgrew))
          have HO3 := Lib.hid (OwnNet.snoc (N := scN b N) (sv := .slice AC np cC) (HO2.out.below hb14 (Nat.le_refl _)) hown hgrew (by
            rw [show (scN b N).ports.length = np from by rw [sc_ports]; exact Hnp.out]
            exact own_below Hw2.out hb14 (Nat.le_refl _)) hQ0)
          have HM2 : Hid ((M ++ [(scN b N, Value.slice AC np cC)]).map (fun x => x.1) = (l.take (k + 1)).map (scN b)) := Lib.hid (by rw [List.map_append, HM.out, Hts.out]; rfl)
          have hb16 := hgrew.below (hbw.trans (hb14.mono hbw.size))
          clear hown hgrew hB10 hb14 hbw HO2 Hw2 HP
          go_wp2_with fail
          go_roundw
          case rel => exact ⟨k + 1, _, by omega, by go_num, HM2, HO3, hb16⟩
          case measure => simp [intOf]; omega
    · obtain rfl : n = k := by omega
      have hMl : M.length = n := by
        have := congrArg List.length HM.out
        simpa [Hll.out] using this
      have hms : M.map (·.1) = l.map (scN b) := by
        rw [HM.out, List.take_of_length_le (by rw [Hll.out]; exact Nat.le_refl _)]
      obtain ⟨A2, cap2, hv2, hcap2, hnod⟩ := HO.out.nodesIn
      rw [hMl] at hv2 hcap2
      subst hv2
      have hck := check_any M A2 n cap2 hMl h12 hcap2 wr hnod
      rw [hms] at hck
      have hlm : (l.map (scN b)).length = n := by rw [List.length_map, Hll.out]
      have Hnod := Lib.hid hnod
      have HMl := Lib.hid hMl
      have Hms := Lib.hid hms
      clear hnod hMl hms HO HM Hl
      cases hokm : okTo (l.map (scN b)) (l.map (scN b)).length
      · have hck' : Calls Try.prog 18 #[.slice A2 n cap2] wr fun e w' => (∃ t x, e = .returned (.iface t x)) ∧ Below wr.heap.size wr w' := hck.mono fun e w' h => ⟨h.1.2 hokm, h.2⟩
        have HC := Lib.hid hck'
        clear hck hck' hokm
        go_wp2_with (first
          | ((with_reducible refine HC.out.mono ?_)
             rintro e w5 ⟨⟨t, xx, rfl⟩, hb5⟩
             skip)
          )
        go_ret
        exact ⟨rfl, hbr.trans (hb5.mono hbr.size)⟩
      · have hck' : Calls Try.prog 18 #[.slice A2 n cap2] wr fun e w' => e = .returned .nilIface ∧ Below wr.heap.size wr w' := hck.mono fun e w' h => ⟨h.1.1 hokm, h.2⟩
        have HC := Lib.hid hck'
        have hvm := valid_of (by rw [hlm]; exact h12) hokm
        have Hvm := Lib.hid hvm
        rw [hlm] at hokm
        have hokM : okTo (M.map (·.1)) n = true := by rw [Hms.out]; exact hokm
        have hpM : PortsOk (M.map (·.1)) := by rw [Hms.out]; exact ports_ok hvm
        have HokM := Lib.hid hokM
        have HpM := Lib.hid hpM
        clear hck hck' hokm hvm hlm hokM hpM
        go_upto_region 20 with (first
          | ((with_reducible refine HC.out.mono ?_)
             rintro e w5 ⟨rfl, hb5⟩
             skip)
          )
        have hb6 := hbr.trans (hb5.mono hbr.size)
        have hRm : ∀ W, Below wr.heap.size wr W → Calls Try.prog 19 #[.slice A2 n cap2] W (RolPost W (l.map (scN b))) := fun W hb => by
          have := roles_any M A2 n cap2 HMl.out h12 hcap2 W ((Hnod.out.below hb (Nat.le_refl _)).imp hb.size) HokM.out HpM.out
          rw [Hms.out] at this; exact this
        have hSm : ∀ W, Below wr.heap.size wr W → Calls Try.prog 20 #[.slice A2 n cap2] W (SolPost W ((solveM l).map (scV b))) := fun W hb => by
          have := solve_any M A2 n cap2 HMl.out h12 hcap2 W ((Hnod.out.below hb (Nat.le_refl _)).imp hb.size) HokM.out HpM.out
          rw [Hms.out, sc_solve hb1 Hv.out Hvm.out] at this; exact this
        have hsame : ∀ i, i < n → (rolesM (l.map (scN b))).getD i [] = (rolesM l).getD i [] := fun i hi => sc_roles hb1 Hv.out Hvm.out (by rw [Hll.out]; exact hi)
        have hvc : ∀ q, q < n → 0 ≤ ((solveM l).getD q default).cost ∧ ((solveM l).getD q default).cost ≤ 2400000000 := fun q hq => solve_cost Hv.out (by rw [Hll.out]; exact hq)
        have hvl : (solveM l).length = n := by unfold solveM; rw [rounds_len, Hll.out]
        have hp8 : ∀ i, i < n → ((rolesM l).getD i []).length ≤ 8 := fun i hi => by
          rw [rolesM_len l (by rw [Hll.out]; exact hi)]
          have hx := valid_node Hv.out (i := i) (by rw [Hll.out]; exact hi)
          unfold rightN at hx
          simp only [Bool.and_eq_true, decide_eq_true_eq] at hx
          exact hx.1.1.1
        have hlm : (l.map (scN b)).length = n := by rw [List.length_map, Hll.out]
        have hR1 := HR.out w5 hb6 h12 Hok.out (netAt_ports Hna.out)
        have hS0 := HS.out
        generalize l.map (scN b) = ms at *
        generalize solveM l = V at *
        have HRm := Lib.hid hRm
        have HSm := Lib.hid hSm
        have Hsame := Lib.hid hsame
        have Hvc := Lib.hid hvc
        have HVl := Lib.hid hvl
        have Hp8 := Lib.hid hp8
        have Hlm := Lib.hid hlm
        have HR1 := Lib.hid hR1
        have HS0 := Lib.hid hS0
        clear hRm hSm hsame hvc hvl hp8 hlm hR1 hS0 HR HS Hnod HokM HpM HMl
        go_upto_region 21 with (first
          | ((with_reducible refine HR1.out.mono ?_)
             rintro e w6 ⟨rv, vs, rfl, hown, hrows, hb7⟩
             rw [Hll.out] at hown hrows
             have hRA := rows_at hown hrows
             obtain ⟨AR, capR, rfl, hcapR, -⟩ := id hRA)
          )
        have HRA := Lib.hid hRA
        have hb8 := hb6.trans (hb7.mono hb6.size)
        have hb9 := hb5.trans (hb7.mono hb5.size)
        have HR2 := Lib.hid (HRm.out w6 hb9)
        clear hown hrows hRA HR1 hb6 hb7 hb5
        go_upto_region 22 with (first
          | ((with_reducible refine HR2.out.mono ?_)
             rintro e w7 ⟨rv2, vs2, rfl, hown, hrows, hb10⟩
             rw [Hlm.out] at hown hrows
             have hRB := rows_at hown hrows
             obtain ⟨BR, capB, rfl, hcapB, -⟩ := id hRB)
          )
        have HRB := Lib.hid hRB
        have hb11 := hb8.trans (hb10.mono hb8.size)
        have hb12 := hb9.trans (hb10.mono hb9.size)
        have HS1 := Lib.hid (HS0.out w7 hb11 h12 Hok.out (netAt_ports Hna.out))
        clear hown hrows hRB HR2 HRm hb8 hb9 HS0
        go_upto_region 23 with (first
          | ((with_reducible refine HS1.out.mono ?_)
             rintro e w8 ⟨v, rfl, hown, hb13⟩
             rw [HVl.out] at hown
             obtain ⟨AV, capV, rfl, hcapV, hAV, -⟩ := own_vecs hown HVl.out)
          )
        have HV8 := Lib.hid hown
        have hb14 := hb12.trans (hb13.mono hb12.size)
        have HS2 := Lib.hid (HSm.out w8 hb14)
        have hAV2 : ∃ gV, (0 < n → AV = some ⟨gV, 0, none⟩ ∧ gV < w8.heap.size) ∧ w7.heap.size ≤ gV := by
          by_cases h0 : 0 < n
          · obtain ⟨gV, e1, e2, e3⟩ := hAV h0
            exact ⟨gV, fun _ => ⟨e1, e3⟩, e2⟩
          · exact ⟨w7.heap.size, fun h => absurd h h0, Nat.le_refl _⟩
        clear hown hAV hb12 HS1 hb14 HSm
        go_upto_region 24 with (first
          | ((with_reducible refine HS2.out.mono ?_)
             rintro e w9 ⟨v2, rfl, hown, hb15⟩
             rw [List.length_map, HVl.out] at hown
             obtain ⟨AW, capW, rfl, hcapW, -, -⟩ := own_vecs hown (by rw [List.length_map]; exact HVl.out))
          )
        obtain ⟨gV, hgV, hgV7⟩ := hAV2
        have HW9 := Lib.hid hown
        have HV9 := Lib.hid (own_below HV8.out hb15 (Nat.le_refl _))
        have h79 := hb13.trans (hb15.mono hb13.size)
        have h69 := hb10.trans (h79.mono hb10.size)
        have hw9 := hb11.trans (h79.mono hb11.size)
        have HgV := Lib.hid hgV
        have lw7 : w.heap.size ≤ w7.heap.size := hb11.size
        have l67 : w6.heap.size ≤ w7.heap.size := hb10.size
        have l79 : w7.heap.size ≤ w9.heap.size := h79.size
        have H79 := Lib.hid h79
        have H69 := Lib.hid h69
        have Hw9 := Lib.hid hw9
        have HB0 := Lib.hid (But.refl gV w9)
        clear hown hb15 hb13 hb11 hb10 HV8 HS2 hgV h79 h69 hw9 hbr Hvm Hms Hnode Hl' Hna Hok
        go_upto_region 26 with (fail)
        go_wp2_with fail
        go_loopw [17, 118] (fun _ i wr => ∃ q : Nat, q ≤ n ∧ i = .int .i64 q ∧ Hid (wr.ownsRow w7.heap.size 48 21 (.slice AV n capV) n (vrows (scVTo b V q))) ∧ Hid (But gV w9 wr)) (fun _ i _ => n - (intOf i).toNat)
        case atStart => exact ⟨0, by omega, rfl, by rw [scVTo_zero]; exact HV9, HB0⟩
        case round =>
          clear HV9 HB0
          obtain ⟨q, hq, rfl, Hv', HB⟩ := hrel
          by_cases hlq : q < n
          · obtain ⟨hAV1, hgV2⟩ := HgV.out (by omega)
            subst hAV1
            have hqV : q < V.length := by rw [HVl.out]; exact hlq
            have hcell := vec_cost Hv'.out (by rw [scVTo_len]; exact HVl.out) (q := q) (by rw [scVTo_len]; exact hqV)
            rw [scVTo_at b V hqV] at hcell
            have hvq := Hvc.out q hlq
            rw [List.getD_eq_getElem?_getD, List.getElem?_eq_getElem hqV, Option.getD_some] at hvq
            obtain ⟨L0, hBl, hol, hset⟩ := own_set1 Hv'.out (o := q * 21 + 8) (by omega) (.int .i64 (V[q].cost * b))
            have hms2 : (vrows (scVTo b V q)).set (q * 21 + 8) (.int .i64 (V[q].cost * b)) = vrows (scVTo b V (q + 1)) := by
              rw [vrows_set _ (by rw [scVTo_len]; exact hqV), scVTo_at b V hqV, scVTo_set b V hqV]
            rw [hms2] at hset
            have hmul1 : 0 ≤ V[q].cost * b := Int.mul_nonneg (by omega) (by omega)
            have hmul2 : V[q].cost * b ≤ 2400000000 * 1000 := Int.mul_le_mul hvq.2 hb2 (by omega) (by omega)
            have hat2 : (scVTo b V (q + 1)).length = n ∧ (scVTo b V (q + 1)).getD q default = scV b V[q] := by
              refine ⟨by rw [scVTo_len]; exact HVl.out, ?_⟩
              rw [← scVTo_set b V hqV, List.getD_eq_getElem?_getD, List.getElem?_set_self (by rw [scVTo_len]; exact hqV)]; rfl
            have hatW : (V.map (scV b)).getD q default = scV b V[q] := by
              rw [List.getD_eq_getElem?_getD, List.getElem?_map, List.getElem?_eq_getElem hqV]; rfl
            have Hat2 := Lib.hid hat2
            have HatW := Lib.hid hatW
            have Hset := Lib.hid hset
            have HBl := Lib.hid hBl
            clear hset hBl hms2 hat2 hatW hvq Hv'
            generalize hx : V[q] = x0 at *
            clear hx
            go_upto_region 30 with (first
              | ((with_reducible refine wpList_store_blk (ty := 3) (b := ?b93) (o := ?o93) (t := 48) L0 [.int .i64 (x0.cost * b)] ?hx93 ?hy93 ?hB93 ?ho93 ?hi93 ?h193 ?hk93)
                 case hx93 => rfl
                 case hy93 => rfl
                 case hB93 => exact HBl.out
                 case ho93 => exact hol
                 case hi93 => exact infoI
                 case h193 => exact fun v hv => by rw [List.mem_singleton.1 hv]; rfl
                 intro X hS8 hO8))
            have HV10 := Lib.hid (Hset.out X hS8)
            have HB10 := Lib.hid (HB.out.only hO8)
            have hWX := own_but HW9.out HB10.out hgV2
            have hvX := vecs_at HV10.out Hat2.out.1
            have hwX := vecs_at hWX (by rw [List.length_map]; exact HVl.out)
            obtain ⟨A9, c9, e9, hc9, hv9⟩ := hvX
            injection e9 with e91 _ e93
            subst e91 e93
            obtain ⟨g9, e9, hg9, hr9⟩ := hv9 (by omega)
            injection e9 with e9
            injection e9 with e9
            subst e9
            obtain ⟨A10, c10, e10, hc10, hv10⟩ := hwX
            injection e10 with e101 _ e103
            subst e101 e103
            obtain ⟨gW, rfl, hgW, hrW⟩ := hv10 (by omega)
            have hr9 := hr9 q hlq
            have hrW := hrW q hlq
            have hA1 := HRA.out.below (HB10.out.below H69.out (by omega) (by omega))
            have hB1 := HRB.out.below (HB10.out.below H79.out (by omega) (by omega))
            obtain ⟨gA, A11, c11, rfl, hgA, hcA, hcc11, hIA⟩ := hA1.row hlq
            obtain ⟨gB, A12, c12, rfl, hgB, hcB, hcc12, hIB⟩ := hB1.row hlq
            unfold vecAt at hr9 hrW
            rw [Hat2.out.2] at hr9
            rw [HatW.out] at hrW
            simp only [Hsame.out q hlq] at hcB hcc12 hIB
            have hn8 := Hp8.out q hlq
            have HIA := Lib.hid hIA
            have HIB := Lib.hid hIB
            have Hr9 := Lib.hid hr9
            have HrW := Lib.hid hrW
            have E1 : ∀ (W : World), (binOp .neq 48 (.agg (scV b x0).vals.toArray) (.agg (scV b x0).vals.toArray)).run Try.prog W = .ok (.bool false) W := fun W => by
              have := vec_neq (scV b x0) (scV b x0) W
              simpa using this
            have G1 : ∀ (x y : Operand) (W : World), (eqGuard .neq 48 x y (.agg (scV b x0).vals.toArray) (.agg (scV b x0).vals.toArray)).run Try.prog W = .ok () W := fun x y W => vec_guard .neq _ _ x y W
            clear hS8 hO8 Hset HBl HB hcell hmul1 hmul2 hWX hr9 hrW hA1 hB1 hIA hIB hv9 hv10 HgV
            generalize hrl : (rolesM l).getD q [] = rl at *
            clear hrl
            generalize (scV b x0) = x1 at *
            refine wp_region_ext (by kernel_rfl) (by kernel_rfl) ?_
            repeat (go_big_quiet_step (fail))
            go_big_quiet_step ((go_at_call 21; exact Calls.ext _ (equal_ints rl A11 A12 rl.length c11 c12 rfl (by omega) _ (HIA.out.below (Ext.below _) (Nat.le_refl _)) (HIB.out.below (Ext.below _) (Nat.le_refl _)))))
            repeat (go_big_quiet_step (fail))
            go_big_quiet_want
            with_reducible refine quiet_load_rng (b := ?b13) (off := ?o13) (ds := ?ds13) x1.vals ?hx13 ?hr13 ?hu13 ?hd13 ?hi13 ?hk13
            case hx13 => rfl
            case hr13 => rintro _ ⟨y, rfl⟩; exact rangeAt_below Hr9.out y.below hg9
            case hu13 => exact Try.underlying48
            case hd13 => rfl
            case hi13 => exact info48
            go_simp
            go_big_quiet_on
            repeat (go_big_quiet_step (fail))
            go_big_quiet_want
            with_reducible refine quiet_load_rng (b := ?b14) (off := ?o14) (ds := ?ds14) x1.vals ?hx14 ?hr14 ?hu14 ?hd14 ?hi14 ?hk14
            case hx14 => rfl
            case hr14 => rintro _ ⟨y, rfl⟩; exact rangeAt_below HrW.out y.below hgW
            case hu14 => exact Try.underlying48
            case hd14 => rfl
            case hi14 => exact info48
            go_simp
            go_big_quiet_on
            repeat (go_big_quiet_step (fail))
            refine wpQuiet_nil ?_
            rintro Y ⟨⟨_, hb20⟩, rfl⟩
            try simp only [] at *
            have HV11 := Lib.hid (own_below HV10.out hb20 (Nat.le_refl _))
            have HB11 := Lib.hid (HB10.out.add hb20)
            clear HV10 HB10 hb20 hcA hcB E1 G1 HIA HIB Hr9 HrW
            go_wp2_with fail
            go_roundw
            case rel => exact ⟨q + 1, by omega, by go_num, HV11, HB11⟩
            case measure => simp [intOf]; omega
          · obtain rfl : n = q := by omega
            have hfin := HB.out.below Hw9.out (by omega) (by omega)
            clear HB
            go_wp2_with fail
            go_ret
            exact ⟨rfl, hfin⟩
theorem law_TreeScale (v : Value) (L : List (Node × Value)) (x : Int) (_ : (Lit.int .i64 x).wf = true) (w : World) (h : IsNodes w v L) :
    Calls Try.prog 3 #[v, .int .i64 x] w fun e w' => e = .returned (.bool true) ∧ Below w.heap.size w w' := by
  obtain ⟨A, n, cap, rfl, hL, hcap, hn, hl⟩ := h
  exact treeScale_any L A n cap x hL hn hcap w hl
end Go.Proofs.Ythpgdipcdllfdaa

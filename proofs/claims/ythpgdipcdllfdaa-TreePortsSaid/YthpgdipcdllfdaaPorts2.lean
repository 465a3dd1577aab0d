/- TreePorts: the walk. -/
import Derived.Test.YthpgdipcdllfdaaPorts1
namespace Go.Proofs.Ythpgdipcdllfdaa
open Go.RowKit
def zeros64 : List Value := [.int .i64 0, .int .i64 0, .int .i64 0, .int .i64 0, .int .i64 0, .int .i64 0, .int .i64 0, .int .i64 0, .int .i64 0, .int .i64 0, .int .i64 0, .int .i64 0, .int .i64 0, .int .i64 0, .int .i64 0, .int .i64 0, .int .i64 0, .int .i64 0, .int .i64 0, .int .i64 0, .int .i64 0, .int .i64 0, .int .i64 0, .int .i64 0, .int .i64 0, .int .i64 0, .int .i64 0, .int .i64 0, .int .i64 0, .int .i64 0, .int .i64 0, .int .i64 0, .int .i64 0, .int .i64 0, .int .i64 0, .int .i64 0, .int .i64 0, .int .i64 0, .int .i64 0, .int .i64 0, .int .i64 0, .int .i64 0, .int .i64 0, .int .i64 0, .int .i64 0, .int .i64 0, .int .i64 0, .int .i64 0, .int .i64 0, .int .i64 0, .int .i64 0, .int .i64 0, .int .i64 0, .int .i64 0, .int .i64 0, .int .i64 0, .int .i64 0, .int .i64 0, .int .i64 0, .int .i64 0, .int .i64 0, .int .i64 0, .int .i64 0, .int .i64 0]
set_option maxRecDepth 100000 in
theorem zeros_arr : zeros64 = arrVals fun _ => 0 := rfl
theorem min_one {P : Program} (ts : Array TypeId) (t : TypeId) (y : Nat) (w : World) : (Builtin.min_ ts t #[.int .i64 1, .int .i64 (y : Int)]).run P w = .ok (.int .i64 ((min 1 y : Nat) : Int)) w := by
  have e : (if (y : Int) < 1 then (y : Int) else 1) = ((min 1 y : Nat) : Int) := by split <;> omega
  simp only [Builtin.min_, List.foldlM_cons, List.foldlM_nil, Builtin.min2, pure_bind, e]
  rfl
theorem zeros_one : ∀ v ∈ zeros64, v.oneCell' = true := by
  intro v hv
  rw [zeros_arr] at hv
  unfold arrVals at hv
  obtain ⟨x, _, rfl⟩ := List.mem_map.1 hv
  rfl
theorem info54 : (Try.prog.info? 54).map (·.size) = some 64 := by kernel_rfl
theorem infoI : (Try.prog.info? 3).map (·.size) = some 1 := by kernel_rfl
theorem arr_on {l : List Node} {j k ln : Nat} (hM : (memAt l j k).lan = (ln : Int)) (h : ln < 64) :
    (arrVals fun lan => cnt (onL l lan) (portsTo l j k)).take ln ++ ([.int .i64 ((cnt (onL l ln) (portsTo l j k) : Nat) + 1 : Int)] ++ (arrVals fun lan => cnt (onL l lan) (portsTo l j k)).drop (ln + [Value.int .i64 ((cnt (onL l ln) (portsTo l j k) : Nat) + 1 : Int)].length)) = arrVals fun lan => cnt (onL l lan) (portsTo l j (k + 1)) := by
  have := arrVals_set (fun lan => cnt (onL l lan) (portsTo l j k)) h (cnt (onL l ln) (portsTo l j k) + 1)
  rw [Int.natCast_add] at this
  refine this.trans ?_
  congr 1
  funext x
  rw [portsTo_succ, cnt_snoc]
  unfold onL
  simp only [hM]
  by_cases hx : x = ln
  · subst hx; simp
  · have : ¬ (ln : Int) = (x : Int) := by omega
    simp [hx, this]
theorem arr_des {l : List Node} {V : List Vec} {j k ln : Nat} (hM : (memAt l j k).lan = (ln : Int)) (h : ln < 64) (hb : bestAt l V j k = true) :
    (arrVals fun lan => cnt (desL l V lan) (portsTo l j k)).take ln ++ ([.int .i64 ((cnt (desL l V ln) (portsTo l j k) : Nat) + 1 : Int)] ++ (arrVals fun lan => cnt (desL l V lan) (portsTo l j k)).drop (ln + [Value.int .i64 ((cnt (desL l V ln) (portsTo l j k) : Nat) + 1 : Int)].length)) = arrVals fun lan => cnt (desL l V lan) (portsTo l j (k + 1)) := by
  have := arrVals_set (fun lan => cnt (desL l V lan) (portsTo l j k)) h (cnt (desL l V ln) (portsTo l j k) + 1)
  rw [Int.natCast_add] at this
  refine this.trans ?_
  congr 1
  funext x
  rw [portsTo_succ, cnt_snoc]
  unfold desL onL
  simp only [hM, hb]
  by_cases hx : x = ln
  · subst hx; simp
  · have : ¬ (ln : Int) = (x : Int) := by omega
    simp [hx, this]
theorem des_same {l : List Node} {V : List Vec} {j k : Nat} (hb : bestAt l V j k = false) : (arrVals fun lan => cnt (desL l V lan) (portsTo l j k)) = arrVals fun lan => cnt (desL l V lan) (portsTo l j (k + 1)) := by
  congr 1
  funext x
  rw [portsTo_succ, cnt_snoc]
  unfold desL
  simp only [hb]
  simp
theorem cnt_small {l : List Node} (hv : validNet l = true) (f : Nat × Nat → Bool) {j k : Nat} (hj : j < l.length) (hk : k ≤ 8) : cnt f (portsTo l j k) ≤ 1000 := by
  refine Nat.le_trans (cnt_le f _) ?_
  have h12 : l.length ≤ 12 := by
    unfold validNet at hv
    simp only [Bool.and_eq_true, decide_eq_true_eq] at hv
    exact hv.1.1
  have row : ∀ i, i ≤ l.length → (portsTo l i 0).length ≤ 8 * i := fun i => by
    induction i with
    | zero => intro _; simp [portsTo]
    | succ i ih =>
      intro hi
      have h1 := ih (by omega)
      have h2 := valid_node hv (i := i) (by omega)
      unfold rightN at h2
      simp only [Bool.and_eq_true, decide_eq_true_eq] at h2
      have h3 : ∀ k, (portsTo l i k).length = (portsTo l i 0).length + k := fun k => by simp [portsTo]
      rw [portsTo_next, h3]
      omega
  have h3 : (portsTo l j k).length = (portsTo l j 0).length + k := by simp [portsTo]
  have := row j (by omega)
  omega
set_option maxRecDepth 100000 in
set_option maxHeartbeats 16000000 in
theorem treePorts_any (L : List (Node × Value)) (A : Option Addr) (n cap : Nat) (hL : L.length = n) (hn : n ≤ 9223372036854775807) (hcap : n ≤ cap) (w : World) (hl : NodesIn w w.heap.size A L) :
    Calls Try.prog 5 #[.slice A n cap] w fun e w' => e = .returned (.bool true) ∧ Below w.heap.size w w' := by
  have hG := grown_any w
  have hN : ∀ W, Below w.heap.size w W → Calls Try.prog 15 #[.slice A n cap] W (NetsPost W (L.map (·.1))) := fun W hb => nets_any L A n cap hL hn hcap W ((hl.below hb (Nat.le_refl _)).imp hb.size)
  have hS : ∀ W, Below w.heap.size w W → n ≤ 12 → okTo (L.map (·.1)) n = true → PortsOk (L.map (·.1)) → Calls Try.prog 20 #[.slice A n cap] W (SolPost W (solveM (L.map (·.1)))) := fun W hb h12 hok hp =>
    solve_any L A n cap hL h12 hcap W ((hl.below hb (Nat.le_refl _)).imp hb.size) hok hp
  have hR : ∀ W, Below w.heap.size w W → n ≤ 12 → okTo (L.map (·.1)) n = true → PortsOk (L.map (·.1)) → Calls Try.prog 19 #[.slice A n cap] W (RolPost W (L.map (·.1))) := fun W hb h12 hok hp =>
    roles_any L A n cap hL h12 hcap W ((hl.below hb (Nat.le_refl _)).imp hb.size) hok hp
  have HG := Lib.hid hG
  have HN := Lib.hid hN
  have HS := Lib.hid hS
  have HR := Lib.hid hR
  have HL := Lib.hid hL
  have Hl := Lib.hid hl
  have hll : (L.map (·.1)).length = n := by rw [List.length_map]; exact hL
  have Hll := Lib.hid hll
  have hnode : ∀ j (hj : j < L.length), nodeAt (L.map (·.1)) j = L[j].1 := fun j hj => by
    unfold nodeAt
    rw [List.getD_eq_getElem?_getD, List.getElem?_map, List.getElem?_eq_getElem hj]; rfl
  have Hnode := Lib.hid hnode
  generalize hl' : L.map (·.1) = l at *
  have hvl : (solveM l).length = n := by unfold solveM; rw [rounds_len, hll]
  have hsol : validNet l = true → Sol l (solveM l) := fun hv => sol_solve hv
  have hrl : ∀ i, i < n → ((rolesM l).getD i []).length = (nodeAt l i).ports.length := fun i hi => rolesM_len l (by omega)
  have hrg : ∀ i k, i < n → k < (nodeAt l i).ports.length → ((rolesM l).getD i []).getD k 0 = roleAt l (solveM l) i k := fun i k hi hk => rolesM_get l (by omega) hk
  generalize solveM l = V at *
  have HVl := Lib.hid hvl
  have HSol := Lib.hid hsol
  have Hrl := Lib.hid hrl
  have Hrg := Lib.hid hrg
  clear hG hN hS hR hL hl hll hnode hl' hvl hsol hrl hrg
  go_enter Try.func5, Try.ntmps5
  go_upto_region 3 with (first
    | ((with_reducible refine HG.out.mono ?_)
       rintro e w1 ⟨rfl, hb1⟩
       skip)
    )
  have HN1 := Lib.hid (HN.out w1 hb1)
  go_upto_region 9 with (first
    | ((with_reducible refine HN1.out.mono ?_)
       rintro e w2 ⟨b, rfl, hyes, hb2⟩
       cases b
       rotate_left
       obtain ⟨h12, hok, hna⟩ := hyes rfl
       rw [Hll.out] at h12 hok
       have HR2 := HR.out w2 (hb1.trans (hb2.mono hb1.size)) h12 hok (netAt_ports hna))
    | ((with_reducible refine HR2.mono ?_)
       rintro e w3 ⟨rv, vs, rfl, hown, hrows, hb3⟩
       rw [Hll.out] at hown hrows
       have hRA := rows_at hown hrows
       obtain ⟨AR, capR, rfl, hcapR, -⟩ := id hRA
       have hb3' := (hb1.trans (hb2.mono hb1.size)).trans (hb3.mono (hb1.trans (hb2.mono hb1.size)).size)
       have HRA := Lib.hid hRA
       clear hown hrows hRA
       have HS2 := HS.out w3 hb3' h12 hok (netAt_ports hna))
    | ((with_reducible refine HS2.mono ?_)
       rintro e w4 ⟨v, rfl, hown, hb4⟩
       rw [HVl.out] at hown
       have hVA := vecs_at hown HVl.out
       obtain ⟨AV, capV, rfl, hcapV, -⟩ := id hVA
       have HVA := Lib.hid hVA
       clear hown hVA)
    )
  rotate_left
  · go_ret
    exact ⟨rfl, hb1.trans (hb2.mono hb1.size)⟩
  have hb5 : Below w.heap.size w w4 := hb3'.trans (hb4.mono hb3'.size)
  have HRA4 := Lib.hid (HRA.out.below hb4)
  have Hl4 := Lib.hid (Hl.out.below hb5 (Nat.le_refl _))
  have Hok := Lib.hid hok
  have Hna := Lib.hid hna
  clear hna hyes HR2 HS2 HRA HG HN HN1 HS HR hb1 hb2 hb3 hb4 hb3' hok
  go_upto_region 10 with (first
    | ((with_reducible refine wpList_store_blk (ty := 54) (b := ?b1) (o := ?o1) (t := 54) zeros64 zeros64 ?hx1 ?hy1 ?hB1 ?ho1 ?hi1 ?h11 ?hk1)
       case hx1 => rfl
       case hy1 => rfl
       case hB1 => exact (two_blks _ zeros64 zeros64 54 54 _ rfl).1
       case ho1 => exact Nat.le_refl _
       case hi1 => exact info54
       case h11 => exact zeros_one
       intro W5 hBD hoD)
    | ((with_reducible refine wpList_store_blk (ty := 54) (b := ?b2) (o := ?o2) (t := 54) zeros64 zeros64 ?hx2 ?hy2 ?hB2 ?ho2 ?hi2 ?h12 ?hk2)
       case hx2 => rfl
       case hy2 => rfl
       case hB2 => exact Blk.only (two_blks w4 zeros64 zeros64 54 54 _ rfl).2.1 hoD (by omega)
       case ho2 => exact Nat.le_refl _
       case hi2 => exact info54
       case h12 => exact zeros_one
       intro W6 hBP hoP))
  generalize (Value.agg #[.int .i64 0, .int .i64 0, .int .i64 0, .int .i64 0, .int .i64 0, .int .i64 0, .int .i64 0, .int .i64 0, .int .i64 0, .int .i64 0, .int .i64 0, .int .i64 0, .int .i64 0, .int .i64 0, .int .i64 0, .int .i64 0, .int .i64 0, .int .i64 0, .int .i64 0, .int .i64 0, .int .i64 0, .int .i64 0, .int .i64 0, .int .i64 0, .int .i64 0, .int .i64 0, .int .i64 0, .int .i64 0, .int .i64 0, .int .i64 0, .int .i64 0, .int .i64 0, .int .i64 0, .int .i64 0, .int .i64 0, .int .i64 0, .int .i64 0, .int .i64 0, .int .i64 0, .int .i64 0, .int .i64 0, .int .i64 0, .int .i64 0, .int .i64 0, .int .i64 0, .int .i64 0, .int .i64 0, .int .i64 0, .int .i64 0, .int .i64 0, .int .i64 0, .int .i64 0, .int .i64 0, .int .i64 0, .int .i64 0, .int .i64 0, .int .i64 0, .int .i64 0, .int .i64 0, .int .i64 0, .int .i64 0, .int .i64 0, .int .i64 0, .int .i64 0]) = zv
  have hW : ∀ X, X = (w4.alloc (.cells zeros64.toArray 54)).alloc (.cells zeros64.toArray 54) → Only w4.heap.size X W5 → Below w4.heap.size w4 W6 ∧ w4.heap.size + 1 < W6.heap.size := fun X e h => by
    obtain ⟨_, _, h3, h4⟩ := two_blks w4 zeros64 zeros64 54 54 X e
    exact ⟨hoP.below (by omega) (h.below (Nat.le_refl _) h3), by rw [hoP.size, h.size]; exact h4⟩
  obtain ⟨hb6, lP6⟩ := hW _ rfl hoD
  have HBD : Hid (Blk W6 w4.heap.size 54 (arrVals fun _ => 0)) := Lib.hid (by rw [← zeros_arr]; exact Blk.only hBD hoP (by omega))
  have HBP : Hid (Blk W6 (w4.heap.size + 1) 54 (arrVals fun _ => 0)) := Lib.hid (by rw [← zeros_arr]; exact hBP)
  clear hBD hBP hoD hoP hW
  generalize hPD : w4.heap.size = PD at *
  have hPDB : PD ≤ w4.heap.size := by omega
  have HPD := Lib.hid hPD
  have hPB2 : PD ≤ w4.heap.size := hPDB
  clear hPD hPDB
  have hb5' : Below w.heap.size w w4 := hb5
  go_wp2_with fail
  go_loopw [9, 10, 11, 12, 13, 54] (fun _ _ _ _ _ i wr => ∃ j : Nat, j ≤ n ∧ i = .int .i64 j ∧ Hid (Blk wr PD 54 (arrVals fun lan => cnt (desL l V lan) (portsTo l j 0))) ∧ Hid (Blk wr (PD + 1) 54 (arrVals fun lan => cnt (onL l lan) (portsTo l j 0))) ∧ Below PD w4 wr) (fun _ _ _ _ _ i _ => n - (intOf i).toNat)
  case atStart => exact ⟨0, by omega, rfl, HBD, HBP, hb6⟩
  case round =>
    clear HBD HBP hb6
    obtain ⟨j, hj, rfl, HBD, HBP, hbr⟩ := hrel
    by_cases hlj : j < n
    · have hjx : j < L.length := by rw [HL.out]; exact hlj
      obtain ⟨g, o, rfl, hg, hc⟩ := Hl4.out.row (by rw [List.length_map]; omega)
      have hc1 := hc j (by rw [List.length_map]; exact hjx)
      rw [List.getElem_map] at hc1
      have hmm := Hl4.out.mems L[j] (List.getElem_mem hjx)
      have hnk := Hnode.out j hjx
      generalize hN : L[j].1 = N at *
      generalize hS : L[j].2 = sv at *
      obtain ⟨A2, cap2, rfl, hcap2, hrow⟩ := hmm
      have hp8 : N.ports.length ≤ 8 := by
        have hx := Hna.out N (by rw [← hnk]; unfold nodeAt; rw [List.getD_eq_getElem?_getD, List.getElem?_eq_getElem (by rw [Hll.out]; exact hlj)]; exact List.getElem_mem _)
        unfold netAt at hx
        simp only [Bool.and_eq_true, decide_eq_true_eq] at hx
        omega
      obtain ⟨AR', capR', eR, _, hRr⟩ := HRA4.out
      injection eR with eR1 eR2 eR3
      subst eR1 eR3
      obtain ⟨gR, rfl, hgR, hRi⟩ := hRr (by omega)
      obtain ⟨AJ, cJ, hJ1, hJ2, hJ3⟩ := hRi j hlj
      have hRl := Hrl.out j hlj
      rw [hnk] at hRl
      rw [hRl] at hJ1 hJ2 hJ3
      obtain ⟨AV', capV', eV, _, hVr⟩ := HVA.out
      injection eV with eV1 eV2 eV3
      subst eV1 eV3
      obtain ⟨gV, rfl, hgV, hVi⟩ := hVr (by omega)
      have hVj := hVi j hlj
      have hRk : ∀ k, k < N.ports.length → w4.cell? ⟨(AJ.getD ⟨0, 0, none⟩).block, k, none⟩ = some (.int .i64 (roleAt l V j k)) ∧ (AJ.getD ⟨0, 0, none⟩).block < PD ∧ AJ = some ⟨(AJ.getD ⟨0, 0, none⟩).block, 0, none⟩ := fun k hk => by
        obtain ⟨g', rfl, hg', hk'⟩ := hJ3 (by omega)
        have h1 := hk' k hk
        rw [Hrg.out j k hlj (by rw [hnk]; exact hk)] at h1
        exact ⟨h1, by rw [← HPD.out]; exact hg', rfl⟩
      generalize hnp : N.ports.length = np at *
      have hgw := hg
      have hgB : g < PD := by have := hb5.size; have := HPD.out; omega
      have hPB : w.heap.size ≤ PD := by have := hb5.size; have := HPD.out; omega
      rw [HPD.out] at hgR hgV
      have hrc := laterc hJ1 hbr hgR
      have Hc1 := Lib.hid (rangeAt_below hc1 hbr hgB)
      have Hrow := Lib.hid hrow
      have Hnk := Lib.hid hnk
      have Hnp := Lib.hid hnp
      have HRk := Lib.hid hRk
      have HVj := Lib.hid hVj
      clear hc hc1 hN hS hrow hnk hnp hJ3 hRk hVj hRi hVi hRr hVr hRl
      go_upto_region 13 with (first
        | ((with_reducible refine wpList_load_rng (ty := 32) (b := ?b5) (o := ?o5) (ds := ?ds5) (N.vals (.slice A2 np cap2)) ?hx5 ?hB5 ?hu5 ?hd5 ?hi5 ?hk5)
           case hx5 => rfl
           case hB5 => exact Hc1.out
           case hu5 => exact Try.underlying32
           case hd5 => rfl
           case hi5 => exact info32)
        | ((with_reducible refine wpList_store_blk (ty := 32) (b := ?b6) (o := ?o6) (t := 32) zNode (N.vals (.slice A2 np cap2)) ?hx6 ?hy6 ?hB6 ?ho6 ?hi6 ?h16 ?hk6)
           case hx6 => rfl
           case hy6 => rfl
           case hB6 => exact Blk.new wr zNode 32
           case ho6 => exact Nat.le_refl _
           case hi6 => exact info32
           case h16 => exact (Node.one _ _ _ _)
           intro W7 hBW7 hoW7))
      obtain ⟨hb7, lP⟩ := Only.fresh hoW7
      have HP7 : Hid (Blk W7 wr.heap.size 32 (N.vals (.slice A2 np cap2))) := hBW7
      have hb8 := hbr.trans (hb7.mono (Nat.le_trans hPB2 hbr.size))
      have lPw : PD + 1 < wr.heap.size := HBP.out.lt
      have HBD7 := Lib.hid (Blk.below HBD.out hb7 HBD.out.lt)
      have HBP7 := Lib.hid (Blk.below HBP.out hb7 HBP.out.lt)
      have hc8 : W7.cell? ⟨wr.heap.size, 8, none⟩ = some (.slice A2 np cap2) := HP7.out.box.cell 8
      have hrc7 := laterc hJ1 hb8 hgR
      have lR7 : gR < W7.heap.size := by have := hb8.size; have := HPD.out; omega
      have hPI : PD + 1 < wr.heap.size := lPw
      generalize wr.heap.size = PI at *
      clear hBW7 hoW7 hb7 hbr Hc1 HBD HBP hrc
      refine wp_region_ext (by kernel_rfl) (by kernel_rfl) ?_
      repeat (go_big_quiet_step (fail))
      refine wpQuiet_nil ?_
      rintro W8 ⟨⟨_, hb9⟩, rfl⟩
      try simp only [] at *
      have HP8 := Lib.hid (Blk.below HP7.out hb9 lP)
      have hb10 := hb8.trans (hb9.mono (Nat.le_trans hPB2 hb8.size))
      have HBD8 := Lib.hid (Blk.below HBD7.out hb9 HBD7.out.lt)
      have HBP8 := Lib.hid (Blk.below HBP7.out hb9 HBP7.out.lt)
      have hc88 := laterc hc8 hb9 lP
      have hJ18 := laterc hJ1 hb10 hgR
      have hrr : rootsTo l V j 0 = 0 := rfl
      clear hc8 hrc7 hb9 hb8 HP7 HBD7 HBP7 lR7 lP
      go_wp2_with fail
      go_loopw [11, 12, 13, 71] (fun r _ _ i wr => ∃ (k : Nat) (q : Int), k ≤ np ∧ i = .int .i64 k ∧ r = .int .i64 q ∧ 0 ≤ q ∧ q ≤ k ∧ Hid (q = (rootsTo l V j k : Nat)) ∧ Hid (Blk wr PD 54 (arrVals fun lan => cnt (desL l V lan) (portsTo l j k))) ∧ Hid (Blk wr (PD + 1) 54 (arrVals fun lan => cnt (onL l lan) (portsTo l j k))) ∧ Hid (Blk wr PI 32 (N.vals (.slice A2 np cap2))) ∧ Below PD w4 wr) (fun _ _ _ i _ => np - (intOf i).toNat)
      case atStart => exact ⟨0, 0, by omega, rfl, rfl, by omega, by omega, Lib.hid rfl, HBD8, HBP8, HP8, hb10⟩
      case round =>
        clear HBD8 HBP8 HP8 hb10 hJ18 hc88
        obtain ⟨k, q, hk, rfl, rfl, hq0, hqk, HQ, HBD, HBP, HP, hbr⟩ := hrel
        by_cases hlk : k < np
        · have hkx : k < N.ports.length := by rw [Hnp.out]; exact hlk
          obtain ⟨g2, o2, rfl, hg2, hc2⟩ := Hrow.out (by rw [List.length_map]; omega)
          have hc3 := hc2 k (by rw [List.length_map]; exact hkx)
          rw [List.getElem_map] at hc3
          have hM : memAt l j k = N.ports[k] := by
            unfold memAt
            rw [Hnk.out, portAt_eq hkx]
          have hpm := netAt_ports Hna.out j k (by rw [Hll.out]; exact hlj) (by rw [Hnk.out]; exact hkx)
          have hlan := (cost_pos (valid_of (by rw [Hll.out]; exact h12) (by rw [Hll.out]; exact Hok.out)) (i := j) (k := k) (by rw [Hll.out]; exact hlj) (by rw [Hnk.out]; exact hkx)).2.2
          rw [hM] at hpm hlan
          generalize N.ports[k] = M at *
          obtain ⟨ln, hln⟩ : ∃ ln : Nat, M.lan = ln := ⟨M.lan.toNat, by omega⟩
          have hln64 : ln < 64 := by omega
          obtain ⟨hR1, hR2, hR3⟩ := HRk.out k hlk
          generalize (AJ.getD ⟨0, 0, none⟩).block = gJ at *
          subst hR3
          have hrr := role_range (l := l) (V := V) (i := j) (k := k)
          have HR1 := Lib.hid hR1
          have Hc3 := Lib.hid (rangeAt_below hc3 hbr (by omega))
          have HM := Lib.hid hM
          have Hln := Lib.hid hln
          clear hc2 hc3 hM hR1 hpm
          go_upto_region 19 with (first
            | ((with_reducible refine wpList_load_rng (ty := 37) (b := ?b7) (o := ?o7) (ds := ?ds7) M.vals ?hx7 ?hB7 ?hu7 ?hd7 ?hi7 ?hk7)
               case hx7 => rfl
               case hB7 => exact Hc3.out
               case hu7 => exact Try.underlying37
               case hd7 => rfl
               case hi7 => exact info37)
            | ((with_reducible refine wpList_store_blk (ty := 37) (b := ?b8) (o := ?o8) (t := 37) zMem M.vals ?hx8 ?hy8 ?hB8 ?ho8 ?hi8 ?h18 ?hk8)
               case hx8 => rfl
               case hy8 => rfl
               case hB8 => exact Blk.new wr zMem 37
               case ho8 => exact Nat.le_refl _
               case hi8 => exact info37
               case h18 => exact (Mem.one _)
               intro W9 hBW9 hoW9))
          obtain ⟨hb4, lM⟩ := Only.fresh hoW9
          have HPM : Hid (Blk W9 wr.heap.size 37 M.vals) := hBW9
          have hb5 := hbr.trans (hb4.mono (Nat.le_trans hPB2 hbr.size))
          have HBD9 := Lib.hid (Blk.below HBD.out hb4 HBD.out.lt)
          have HBP9 := Lib.hid (Blk.below HBP.out hb4 HBP.out.lt)
          have HP9 := Lib.hid (Blk.below HP.out hb4 HP.out.lt)
          have lPM : PI < wr.heap.size := HP.out.lt
          generalize wr.heap.size = PM at *
          have hl3 : W9.cell? ⟨PM, 3, none⟩ = some (.int .i64 (ln : Int)) := by
            rw [← Hln.out]; exact HPM.out.box.cell 3
          have hcb := cnt_small (l := l) (valid_of (by rw [Hll.out]; exact h12) (by rw [Hll.out]; exact Hok.out)) (onL l (ln : Int)) (j := j) (k := k) (by rw [Hll.out]; exact hlj) (by omega)
          have hcd := cnt_small (l := l) (valid_of (by rw [Hll.out]; exact h12) (by rw [Hll.out]; exact Hok.out)) (desL l V (ln : Int)) (j := j) (k := k) (by rw [Hll.out]; exact hlj) (by omega)
          have hp9 : W9.cell? ⟨PD + 1, ln, none⟩ = some (.int .i64 (cnt (onL l (ln : Int)) (portsTo l j k) : Nat)) := by
            rw [HBP9.out.box.cell ln, List.getElem?_toArray, arrVals_at _ hln64]
          have lanI : (0 : Int) ≤ (ln : Int) ∧ (ln : Int) < 64 := by omega
          clear hBW9 hoW9 hb4 hbr Hc3 HBD HBP HP
          go_upto_region 20 with (first
            | ((with_reducible refine wpList_store_blk (ty := 3) (b := ?b3) (o := ?o3) (t := 54) (arrVals fun lan => cnt (onL l lan) (portsTo l j k)) [.int .i64 ((cnt (onL l (ln : Int)) (portsTo l j k) : Nat) + 1 : Int)] ?hx3 ?hy3 ?hB3 ?ho3 ?hi3 ?h13 ?hk3)
               case hx3 => rfl
               case hy3 => rfl
               case hB3 => exact HBP9.out
               case ho3 => rw [arrVals_len]; exact hln64
               case hi3 => exact infoI
               case h13 => exact fun v hv => by rw [List.mem_singleton.1 hv]; rfl
               intro W10 hSW10 hOW10))
          have HBP10 : Hid (Blk W10 (PD + 1) 54 (arrVals fun lan => cnt (onL l lan) (portsTo l j (k + 1)))) := Lib.hid (by
            have hM2 : (memAt l j k).lan = (ln : Int) := by rw [HM.out]; exact Hln.out
            rw [arr_on hM2 hln64] at hSW10
            exact hSW10)
          have HBD10 := Lib.hid (Blk.only HBD9.out hOW10 (by omega))
          have HP10 := Lib.hid (Blk.only HP9.out hOW10 (by omega))
          have HPM10 := Lib.hid (Blk.only HPM.out hOW10 (by omega))
          have hb6 := hOW10.below (by omega) hb5
          have hd10 : W10.cell? ⟨PD, ln, none⟩ = some (.int .i64 (cnt (desL l V (ln : Int)) (portsTo l j k) : Nat)) := by
            rw [HBD10.out.box.cell ln, List.getElem?_toArray, arrVals_at _ hln64]
          have hl10 : W10.cell? ⟨PM, 3, none⟩ = some (.int .i64 (ln : Int)) := by
            rw [← Hln.out]; exact HPM10.out.box.cell 3
          have hJ10 := laterc hJ1 hb6 hgR
          have hR10 := laterc HR1.out hb6 hR2
          have Hbest : Hid (roleAt l V j k = 1 → bestAt l V j k = true) := Lib.hid role_one.1
          have Hbest0 : Hid (roleAt l V j k ≠ 1 → bestAt l V j k = false) := Lib.hid (fun h => by
            cases hb : bestAt l V j k
            · rfl
            · exact (h (role_one.2 hb)).elim)
          have Hrts : Hid (((rootsTo l V j (k + 1) : Nat) : Int) = q + if roleAt l V j k = 2 then 1 else 0) := Lib.hid (by
            rw [rootsTo_succ, HQ.out]; split <;> simp)
          clear HR1 hSW10 hOW10 HBD9 HBP9 HP9 HPM hp9 hl3 hb5 HQ
          rcases hrr with h1 | h1 | h1
          · have Hb := Lib.hid (Hbest.out h1)
            have Hr2 := Hrts.out
            rw [h1] at hR10 Hr2
            have HR2 : Hid (((rootsTo l V j (k + 1) : Nat) : Int) = q) := Lib.hid (by simpa using Hr2)
            clear Hbest Hbest0 Hrts h1 Hr2
            go_wp2_with (first
              | ((with_reducible refine wpList_store_blk (ty := 3) (b := ?b4) (o := ?o4) (t := 54) (arrVals fun lan => cnt (desL l V lan) (portsTo l j k)) [.int .i64 ((cnt (desL l V (ln : Int)) (portsTo l j k) : Nat) + 1 : Int)] ?hx4 ?hy4 ?hB4 ?ho4 ?hi4 ?h14 ?hk4)
                 case hx4 => rfl
                 case hy4 => rfl
                 case hB4 => exact HBD10.out
                 case ho4 => rw [arrVals_len]; exact hln64
                 case hi4 => exact infoI
                 case h14 => exact fun v hv => by rw [List.mem_singleton.1 hv]; rfl
                 intro W11 hSW11 hOW11))
            have HBD11 : Hid (Blk W11 PD 54 (arrVals fun lan => cnt (desL l V lan) (portsTo l j (k + 1)))) := Lib.hid (by
              have hM2 : (memAt l j k).lan = (ln : Int) := by rw [HM.out]; exact Hln.out
              rw [arr_des hM2 hln64 Hb.out] at hSW11
              exact hSW11)
            have HBP11 := Lib.hid (Blk.only HBP10.out hOW11 (by omega))
            have HP11 := Lib.hid (Blk.only HP10.out hOW11 (by omega))
            have hb7 := hOW11.below (Nat.le_refl _) hb6
            clear hSW11 hOW11 hd10 hl10 hJ10 hR10
            go_wp2_with fail
            go_roundw
            case rel => exact ⟨k + 1, q, by omega, by go_num, rfl, hq0, by omega, Lib.hid HR2.out.symm, HBD11, HBP11, HP11, hb7⟩
            case measure => simp [intOf]; omega
          · have Hb := Lib.hid (Hbest0.out (by rw [h1]; decide))
            have Hr2 := Hrts.out
            rw [h1] at hR10 Hr2
            have HR2 : Hid (((rootsTo l V j (k + 1) : Nat) : Int) = q + 1) := Lib.hid (by simpa using Hr2)
            have HBD11 := HBD10
            rw [des_same Hb.out] at HBD11
            clear Hbest Hbest0 Hrts h1 Hr2 HBD10
            go_wp2_with fail
            go_roundw
            case rel => exact ⟨k + 1, q + 1, by omega, by go_num, rfl, by omega, by omega, Lib.hid HR2.out.symm, HBD11, HBP10, HP10, hb6⟩
            case measure => simp [intOf]; omega
          · have Hb := Lib.hid (Hbest0.out (by rw [h1]; decide))
            have Hr2 := Hrts.out
            rw [h1] at hR10 Hr2
            have HR2 : Hid (((rootsTo l V j (k + 1) : Nat) : Int) = q) := Lib.hid (by simpa using Hr2)
            have HBD11 := HBD10
            rw [des_same Hb.out] at HBD11
            clear Hbest Hbest0 Hrts h1 Hr2 HBD10
            go_wp2_with fail
            go_roundw
            case rel => exact ⟨k + 1, q, by omega, by go_num, rfl, hq0, by omega, Lib.hid HR2.out.symm, HBD11, HBP10, HP10, hb6⟩
            case measure => simp [intOf]; omega
        · have hkn : k = np := by omega
          subst hkn
          rw [← Hnp.out, ← Hnk.out, ← portsTo_next] at HBD HBP
          have hor : ((vecAt V j).root = N.br ∧ q = 0) ∨ (¬ (vecAt V j).root = N.br ∧ q = 1) := by
            have h1 := one_root (valid_of (by rw [Hll.out]; exact h12) (by rw [Hll.out]; exact Hok.out)) (HSol.out (valid_of (by rw [Hll.out]; exact h12) (by rw [Hll.out]; exact Hok.out))) (i := j) (by rw [Hll.out]; exact hlj)
            rw [Hnk.out, Hnp.out] at h1
            have h2 := HQ.out
            rw [h1] at h2
            have hbr : brAt l j = N.br := by unfold brAt; rw [Hnk.out]
            rw [hbr] at h2
            by_cases hr : (vecAt V j).root = N.br
            · rw [if_pos hr] at h2; exact .inl ⟨hr, h2⟩
            · rw [if_neg hr] at h2; exact .inr ⟨hr, h2⟩
          have HRt := Lib.hid (rng_left (a := (vecAt V j).root.vals) (rangeAt_below HVj.out hbr hgV))
          have HBr := Lib.hid (rng_left (a := N.br.vals) HP.out.box.range)
          have lPr : PI < wr.heap.size := HP.out.lt
          have lVr : gV < wr.heap.size := by have := hbr.size; have := HPD.out; omega
          have E1 : ∀ (W : World), (binOp .neq 29 (.agg (vecAt V j).root.vals.toArray) (.agg N.br.vals.toArray)).run Try.prog W = .ok (.bool (!decide ((vecAt V j).root = N.br))) W := fun W => br_neq _ _ W
          have G1 : ∀ (x y : Operand) (W : World), (eqGuard .neq 29 x y (.agg (vecAt V j).root.vals.toArray) (.agg N.br.vals.toArray)).run Try.prog W = .ok () W := fun x y W => br_guard .neq _ _ x y W
          rcases hor with ⟨h1, rfl⟩ | ⟨h1, rfl⟩
          · rw [show decide ((vecAt V j).root = N.br) = true from decide_eq_true h1] at E1
            clear h1 HQ
            go_wp2_with fail
            refine wp_region_ext (by kernel_rfl) (by kernel_rfl) ?_
            repeat (go_big_quiet_step (fail))
            go_big_quiet_want
            with_reducible refine quiet_load_rng (b := ?b9) (off := ?o9) (ds := ?ds9) (vecAt V j).root.vals ?hx9 ?hr9 ?hu9 ?hd9 ?hi9 ?hk9
            case hx9 => rfl
            case hr9 => rintro _ ⟨y, rfl⟩; exact rangeAt_below HRt.out y.below lVr
            case hu9 => exact Try.underlying29
            case hd9 => rfl
            case hi9 => exact info29
            go_simp
            go_big_quiet_on
            repeat (go_big_quiet_step (fail))
            go_big_quiet_want
            with_reducible refine quiet_load_rng (b := ?b10) (off := ?o10) (ds := ?ds10) N.br.vals ?hx10 ?hr10 ?hu10 ?hd10 ?hi10 ?hk10
            case hx10 => rfl
            case hr10 => rintro _ ⟨y, rfl⟩; exact rangeAt_below HBr.out y.below lPr
            case hu10 => exact Try.underlying29
            case hd10 => rfl
            case hi10 => exact info29
            go_simp
            go_big_quiet_on
            repeat (go_big_quiet_step (fail))
            refine wpQuiet_nil ?_
            rintro W12 ⟨⟨_, hb9⟩, rfl⟩
            try simp only [] at *
            have HBD12 := Lib.hid (Blk.below HBD.out hb9 HBD.out.lt)
            have HBP12 := Lib.hid (Blk.below HBP.out hb9 HBP.out.lt)
            have hb10 := hbr.trans (hb9.mono (Nat.le_trans hPB2 hbr.size))
            clear HBD HBP HP hbr E1 G1 HRt HBr lVr lPr
            go_wp2_with fail
            go_roundw
            case rel => exact ⟨j + 1, by omega, by go_num, HBD12, HBP12, hb10⟩
            case measure => simp [intOf]; omega
          · rw [show decide ((vecAt V j).root = N.br) = false from decide_eq_false h1] at E1
            clear h1 HQ
            go_wp2_with fail
            refine wp_region_ext (by kernel_rfl) (by kernel_rfl) ?_
            repeat (go_big_quiet_step (fail))
            go_big_quiet_want
            with_reducible refine quiet_load_rng (b := ?b11) (off := ?o11) (ds := ?ds11) (vecAt V j).root.vals ?hx11 ?hr11 ?hu11 ?hd11 ?hi11 ?hk11
            case hx11 => rfl
            case hr11 => rintro _ ⟨y, rfl⟩; exact rangeAt_below HRt.out y.below lVr
            case hu11 => exact Try.underlying29
            case hd11 => rfl
            case hi11 => exact info29
            go_simp
            go_big_quiet_on
            repeat (go_big_quiet_step (fail))
            go_big_quiet_want
            with_reducible refine quiet_load_rng (b := ?b12) (off := ?o12) (ds := ?ds12) N.br.vals ?hx12 ?hr12 ?hu12 ?hd12 ?hi12 ?hk12
            case hx12 => rfl
            case hr12 => rintro _ ⟨y, rfl⟩; exact rangeAt_below HBr.out y.below lPr
            case hu12 => exact Try.underlying29
            case hd12 => rfl
            case hi12 => exact info29
            go_simp
            go_big_quiet_on
            repeat (go_big_quiet_step (fail))
            refine wpQuiet_nil ?_
            rintro W12 ⟨⟨_, hb9⟩, rfl⟩
            try simp only [] at *
            have HBD12 := Lib.hid (Blk.below HBD.out hb9 HBD.out.lt)
            have HBP12 := Lib.hid (Blk.below HBP.out hb9 HBP.out.lt)
            have hb10 := hbr.trans (hb9.mono (Nat.le_trans hPB2 hbr.size))
            clear HBD HBP HP hbr E1 G1 HRt HBr lVr lPr
            go_wp2_with fail
            go_roundw
            case rel => exact ⟨j + 1, by omega, by go_num, HBD12, HBP12, hb10⟩
            case measure => simp [intOf]; omega
    · have hjn : j = n := by omega
      subst hjn
      have Hone : Hid (∀ lan : Int, cnt (desL l V lan) (portsTo l j 0) = min 1 (cnt (onL l lan) (portsTo l j 0))) := Lib.hid (fun lan => by
        have := one_designated (V := V) (valid_of (by rw [Hll.out]; exact h12) (by rw [Hll.out]; exact Hok.out)) lan
        rw [Hll.out] at this
        exact this)
      have hmin := @min_one Try.prog
      go_wp2_with fail
      go_loopw [14, 120] (fun _ i wr => ∃ q : Nat, q ≤ 64 ∧ i = .int .i64 q ∧ Hid (Blk wr PD 54 (arrVals fun lan => cnt (desL l V lan) (portsTo l j 0))) ∧ Hid (Blk wr (PD + 1) 54 (arrVals fun lan => cnt (onL l lan) (portsTo l j 0))) ∧ Below PD w4 wr) (fun _ i _ => 64 - (intOf i).toNat)
      case atStart => exact ⟨0, by omega, rfl, HBD, HBP, hbr⟩
      case round =>
        clear HBD HBP hbr
        obtain ⟨q, hq, rfl, HBD, HBP, hbr⟩ := hrel
        by_cases hlq : q < 64
        · have hd := HBD.out.box.cell q
          have hp := HBP.out.box.cell q
          rw [List.getElem?_toArray, arrVals_at _ hlq] at hd hp
          have h1 := Hone.out (q : Int)
          rw [h1] at hd
          generalize cnt (onL l (q : Int)) (portsTo l j 0) = c at *
          have lD : PD < wr.heap.size := HBD.out.lt
          have lP : PD + 1 < wr.heap.size := HBP.out.lt
          have hne : (((min 1 c : Nat) : Int) != ((min 1 c : Nat) : Int)) = false := by simp
          clear h1
          go_wp2_with fail
          refine wp_region_ext (by kernel_rfl) (by kernel_rfl) ?_
          repeat (go_big_quiet_step (fail))
          refine wpQuiet_nil ?_
          rintro W12 ⟨⟨_, hb9⟩, rfl⟩
          try simp only [] at *
          have HBD12 := Lib.hid (Blk.below HBD.out hb9 HBD.out.lt)
          have HBP12 := Lib.hid (Blk.below HBP.out hb9 HBP.out.lt)
          have hb10 := hbr.trans (hb9.mono (Nat.le_trans hPB2 hbr.size))
          clear HBD HBP hbr hd hp
          go_wp2_with fail
          go_roundw
          case rel => exact ⟨q + 1, by omega, by go_num, HBD12, HBP12, hb10⟩
          case measure => simp [intOf]; omega
        · have hqn : q = 64 := by omega
          subst hqn
          go_wp2_with fail
          go_ret
          exact ⟨rfl, hb5.trans (hbr.mono (by have := hb5.size; have := HPD.out; omega))⟩
end Go.Proofs.Ythpgdipcdllfdaa

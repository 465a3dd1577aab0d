/- TreeLeaf: the walk. -/
import Derived.Test.YthpgdipcdllfdaaBut
import Derived.Test.YthpgdipcdllfdaaLeaf1
import Derived.Test.YthpgdipcdllfdaaScale1
import Derived.Deep.RegionHeld3
import Derived.Deep.AppendLies
namespace Go.Proofs.Ythpgdipcdllfdaa
open Go.RowKit
theorem nrows_one (M : List (Node × Value)) (hM : ∀ x ∈ M, ∃ A n c, x.2 = .slice A n c) : ∀ u ∈ nrows M, u.oneCell' = true := by
  intro u hu
  unfold nrows at hu
  simp only [List.mem_flatten, List.mem_map] at hu
  obtain ⟨_, ⟨v, hv, rfl⟩, hu⟩ := hu
  obtain ⟨A, n, c, e⟩ := hM v hv
  rw [e] at hu
  exact Node.one _ _ _ _ u hu
theorem nodes_cells {w : World} {x : Addr} {L : List (Node × Value)} (h : SlRow w w.heap.size 9 (some x) (L.map fun y => y.1.vals y.2)) : ∀ j u, (nrows L)[j]? = some u → w.cell? (x.add j) = some u := by
  by_cases h0 : 0 < L.length
  · obtain ⟨g, o, e, _, hr⟩ := h (by rw [List.length_map]; exact h0)
    injection e with e
    subst e
    refine flat_cells (s := 9) (by omega) (fun c hc => by obtain ⟨m, _, rfl⟩ := List.mem_map.1 hc; rfl) (fun k hk j u hj => ?_)
    have := hr k hk j u hj
    rw [Addr.add_mid, ← Nat.add_assoc]
    exact this
  · have : L = [] := List.length_eq_zero_iff.1 (by omega)
    subst this
    intro j u hj
    simp [nrows] at hj
def CloneP (w0 X : World) (n : Nat) (L : List (Node × Value)) (e : Ending) (w' : World) : Prop := ∃ v, e = .returned v ∧ w'.ownsRow w0.heap.size 32 9 v n (nrows L) ∧ Below w0.heap.size w0 w' ∧ Below X.heap.size X w'
def LCut (w0 : World) (n : Nat) (xs : List Value) (s : Value) (wx : World) : Prop := ∃ g cap, s = .slice (some ⟨g, 0, none⟩) (n + 1) cap ∧ wx.ownsRow w0.heap.size 32 9 s (n + 1) xs ∧ Below w0.heap.size w0 wx
def OwnNodes (w : World) (L : List (Node × Value)) (e : Ending) (w' : World) : Prop := ∃ v, e = .returned v ∧ w'.ownsRow w.heap.size 32 9 v L.length (nrows L) ∧ Below w.heap.size w w'
set_option maxRecDepth 100000 in
set_option maxHeartbeats 1000000 in
theorem cloneN_some (L : List (Node × Value)) (x : Addr) (cap n : Nat) (hn : L.length = n) (h8 : n ≤ 12) (hM : ∀ x ∈ L, ∃ A n c, x.2 = .slice A n c) (w : World) (hr : SlRow w w.heap.size 9 (some x) (L.map fun y => y.1.vals y.2)) :
    Calls Try.prog 22 #[.slice (some x) n cap] w (OwnNodes w L) := by
  have hcell := nodes_cells hr
  have hlt : ∀ j u, (nrows L)[j]? = some u → ∀ X, X = w.alloc (.cells #[] 32) → X.cell? (x.add j) = some u := fun j u hj X e => by
    subst e
    have h1 := hcell j u hj
    have hlt : (x.add j).block < w.heap.size := by
      rcases Nat.lt_or_ge (x.add j).block w.heap.size with hlt | hge
      · exact hlt
      · rw [World.cell?, Array.getElem?_eq_none hge] at h1; cases h1
    exact (((Below.refl _ w).alloc (Nat.le_refl _) _).cell hlt).trans h1
  have Hr := Lib.hid hlt
  have Hn := Lib.hid hn
  have HM := Lib.hid hM
  clear hr hn hcell hlt hM
  have hq := @Lib.run_eql_slice_nil Try.prog
  go_enter Try.func22, Try.ntmps22
  go_wp2_with (
    (with_reducible refine wpList_append_from (t := 22) (v := .slice (some ⟨w.heap.size, 0, none⟩) 0 0) (base := w.heap.size) (n := 0) (m := n) (c := cap) (from_ := x) [] (nrows L) elemNode ?hs ?hx ?ow ?hr ?hl ?h1 ?h63 ?hb ?hba ?hk)
    case hs => rfl
    case hx => rfl
    case ow => exact ⟨rfl, .inr ⟨w.heap.size, 0, #[], rfl, Nat.le_refl _, heap_alloc_new w _, Nat.le_refl 0, Nat.zero_le _, rfl, rfl⟩⟩
    case hr => exact fun j u hj => Hr.out j u hj _ rfl
    case hl => rw [nrows_len, Hn.out]
    case h1 => exact nrows_one L HM.out
    case h63 => unfold maxLen; omega
    case hb => omega
    case hba => simp
    intro v' w3 hown hgrew)
  have hb := hgrew.below ((Below.refl _ w).alloc (Nat.le_refl _) _)
  rw [Nat.zero_add, List.nil_append] at hown
  exact bodyPost_ret (v := v') (by simp [results, Try.results22, go_sem]) rfl ⟨_, rfl, by rw [Hn.out]; exact hown, hb⟩
set_option maxRecDepth 100000 in
set_option maxHeartbeats 1000000 in
theorem cloneN_none (cap : Nat) (w : World) :
    Calls Try.prog 22 #[.slice none 0 cap] w (OwnNodes w []) := by
  have hq := @Lib.run_eql_slice_nil Try.prog
  go_enter Try.func22, Try.ntmps22
  go_wp2_with fail
  exact bodyPost_ret (v := .slice none 0 0) (by simp [results, Try.results22, go_sem]) rfl ⟨_, rfl, World.ownsRow_nil _ _ _ _, Below.refl _ _⟩
theorem cloneN_any (L : List (Node × Value)) (A : Option Addr) (n cap : Nat) (hn : L.length = n) (h8 : n ≤ 12) (w : World) (hl : NodesIn w w.heap.size A L) :
    Calls Try.prog 22 #[.slice A n cap] w (OwnNodes w L) := by
  cases A with
  | some x => exact cloneN_some L x cap n hn h8 (fun x hx => by
      obtain ⟨A, c, e, _⟩ := hl.mems x hx
      exact ⟨A, _, c, e⟩) w hl.row
  | none =>
    have h0 : L = [] := by
      rcases Nat.eq_zero_or_pos L.length with h | h
      · exact List.length_eq_zero_iff.1 h
      · obtain ⟨g, o, e, _⟩ := hl.row (by rw [List.length_map]; exact h)
        cases e
    subst h0
    obtain rfl : 0 = n := by simpa using hn
    exact cloneN_none cap w
set_option maxRecDepth 100000 in
set_option maxHeartbeats 16000000 in
theorem treeLeaf_any (L : List (Node × Value)) (A : Option Addr) (n cap : Nat) (x y : Int) (hL : L.length = n) (hn : n ≤ 9223372036854775807) (hcap : n ≤ cap) (w : World) (hl : NodesIn w w.heap.size A L) :
    Calls Try.prog 4 #[.slice A n cap, .int .i64 x, .int .i64 y] w fun e w' => e = .returned (.bool true) ∧ Below w.heap.size w w' := by
  have hG := grown_any w
  have hN : ∀ W, Below w.heap.size w W → Calls Try.prog 15 #[.slice A n cap] W (NetsPost W (L.map (·.1))) := fun W hb => nets_any L A n cap hL hn hcap W ((hl.below hb (Nat.le_refl _)).imp hb.size)
  have hS : ∀ W, Below w.heap.size w W → n ≤ 12 → okTo (L.map (·.1)) n = true → PortsOk (L.map (·.1)) → Calls Try.prog 20 #[.slice A n cap] W (SolPost W (solveM (L.map (·.1)))) := fun W hb h12 hok hp =>
    solve_any L A n cap hL h12 hcap W ((hl.below hb (Nat.le_refl _)).imp hb.size) hok hp
  have hR : ∀ W, Below w.heap.size w W → n ≤ 12 → okTo (L.map (·.1)) n = true → PortsOk (L.map (·.1)) → Calls Try.prog 19 #[.slice A n cap] W (RolPost W (L.map (·.1))) := fun W hb h12 hok hp =>
    roles_any L A n cap hL h12 hcap W ((hl.below hb (Nat.le_refl _)).imp hb.size) hok hp
  have HG := Lib.hid hG
  have HN := Lib.hid hN
  have HS := Lib.hid hS
  have HR := Lib.hid hR
  have HL := Lib.hid hL
  have Hl := Lib.hid hl
  have hll : (L.map (·.1)).length = n := by rw [List.length_map]; exact hL
  have Hll := Lib.hid hll
  have hnode : ∀ j (hj : j < L.length), nodeAt (L.map (·.1)) j = L[j].1 := fun j hj => by
    unfold nodeAt
    rw [List.getD_eq_getElem?_getD, List.getElem?_map, List.getElem?_eq_getElem hj]; rfl
  have Hnode := Lib.hid hnode
  generalize hl' : L.map (·.1) = l at *
  have Hl' := Lib.hid hl'
  clear hG hN hS hR hL hl hll hnode hl'
  have hpx : ∀ W, Calls Try.prog 16 #[.int .i64 x, .int .i64 64] W fun e w' => e = .returned (.int .i64 (pickN x 64 : Nat)) ∧ W = w' := fun W => pick_any x 64 W (by omega) (by omega)
  have hpy : ∀ W, Calls Try.prog 16 #[.int .i64 y, .int .i64 100] W fun e w' => e = .returned (.int .i64 (pickN y 100 : Nat)) ∧ W = w' := fun W => pick_any y 100 W (by omega) (by omega)
  have hlx := pickN_lt x 64 (by omega)
  have hly := pickN_lt y 100 (by omega)
  generalize pickN x 64 = px at *
  generalize pickN y 100 = py at *
  have HPX := Lib.hid hpx
  have HPY := Lib.hid hpy
  clear hpx hpy
  go_enter Try.func4, Try.ntmps4
  go_upto_region 3 with (first
    | ((with_reducible refine HG.out.mono ?_)
       rintro e w1 ⟨rfl, hb1⟩
       skip)
    )
  have HN1 := Lib.hid (HN.out w1 hb1)
  by_cases h12e : n = 12
  · subst h12e
    go_wp2_with (first
      | ((with_reducible refine HN1.out.mono ?_)
         rintro e w2 ⟨b, rfl, hyes, hb2⟩
         cases b
         rotate_left)
      )
    all_goals
      go_ret
      exact ⟨rfl, hb1.trans (hb2.mono hb1.size)⟩
  have hne : ((n : Int) == 12) = false := by simpa using fun e : (n : Int) = 12 => h12e (by omega)
  go_upto_region 5 with (first
    | ((with_reducible refine HN1.out.mono ?_)
       rintro e w2 ⟨b, rfl, hyes, hb2⟩
       cases b
       rotate_left
       obtain ⟨h12, hok, hna⟩ := hyes rfl
       have hv := valid_of h12 hok
       rw [Hll.out] at h12 hok)
    )
  rotate_left
  · go_ret
    exact ⟨rfl, hb1.trans (hb2.mono hb1.size)⟩
  have h11 : n ≤ 11 := by omega
  have hb3 := hb1.trans (hb2.mono hb1.size)
  have hsol := sol_solve hv
  have hvl : (solveM l).length = n := by unfold solveM; rw [rounds_len, Hll.out]
  have hS1 := HS.out w2 hb3 h12 hok (netAt_ports hna)
  have hR0 := HR.out
  generalize solveM l = V at *
  have Hv := Lib.hid hv
  have Hok := Lib.hid hok
  have Hna := Lib.hid hna
  have Hsol := Lib.hid hsol
  have HVl := Lib.hid hvl
  have HS1 := Lib.hid hS1
  have HR0 := Lib.hid hR0
  clear hyes hna hok hv HG HN HN1 hb1 hb2 hsol hvl hS1 hR0 HR HS hne h12e
  go_upto_region 6 with (first
    | ((with_reducible refine HS1.out.mono ?_)
       rintro e w3 ⟨v, rfl, hown, hb4⟩
       rw [HVl.out] at hown
       have hVA := vecs_at hown HVl.out
       obtain ⟨AV, capV, rfl, hcapV, -⟩ := id hVA)
    )
  have HVA := Lib.hid hVA
  have hb5 := hb3.trans (hb4.mono hb3.size)
  have HR1 := Lib.hid (HR0.out w3 hb5 h12 Hok.out (netAt_ports Hna.out))
  clear hown hVA HS1 hb3 hb4 HR0
  go_upto_region 7 with (first
    | ((with_reducible refine HR1.out.mono ?_)
       rintro e w4 ⟨rv, vs, rfl, hown, hrows, hb6⟩
       rw [Hll.out] at hown hrows
       have hRA := rows_at hown hrows
       obtain ⟨AR, capR, rfl, hcapR, -⟩ := id hRA)
    )
  have HRA := Lib.hid hRA
  have HVA4 := Lib.hid (HVA.out.below hb6)
  have hb7 := hb5.trans (hb6.mono hb5.size)
  have Hl4 := Lib.hid ((Hl.out.below hb7 (Nat.le_refl _)).imp hb7.size)
  have lw4 : w.heap.size ≤ w4.heap.size := hb7.size
  have Hb7 := Lib.hid hb7
  clear hown hrows hRA HR1 HVA hb5 hb6 hb7 Hok Hna
  go_upto_region 8 with (first
    | ((with_reducible refine (HPX.out _).mono ?_)
       rintro e w' ⟨rfl, rfl⟩)
    | ((with_reducible refine (HPY.out _).mono ?_)
       rintro e w' ⟨rfl, rfl⟩)
    | ((with_reducible refine wpList_build1 (leafM (px : Nat) (1 + (py : Nat))).vals elemMem ?hxbo rfl (by decide) ?_)
       case hxbo => rfl
       intro W5 hB5 hb8 lB5)
    | ((with_reducible refine wpList_store_blk (ty := 32) (b := ?b6) (o := ?o6) (t := 32) zNode ((leafN (px : Nat) (1 + (py : Nat))).vals (.slice (some ⟨w4.heap.size, 0, none⟩) 1 1)) ?hx6 ?hy6 ?hB6 ?ho6 ?hi6 ?h16 ?hk6)
       case hx6 => rfl
       case hy6 => rfl
       case hB6 => exact Blk.new W5 zNode 32
       case ho6 => exact Nat.le_refl _
       case hi6 => exact info32
       case h16 => exact (Node.one _ _ _ _)
       intro W6 hBW6 hoW6))
  obtain ⟨hb9, lPL⟩ := Only.fresh hoW6
  have hb10 : Below w4.heap.size w4 W6 := hb8.trans (hb9.mono hb8.size)
  have HBL : Hid (Blk W6 W5.heap.size 32 ((leafN (px : Nat) (1 + (py : Nat))).vals (.slice (some ⟨w4.heap.size, 0, none⟩) 1 1))) := Lib.hid hBW6
  have HBS : Hid (Blk W6 w4.heap.size 37 (leafM (px : Nat) (1 + (py : Nat))).vals) := Lib.hid (Blk.below hB5 hb9 lB5)
  have HCN : Hid (∀ X, Below W6.heap.size W6 X → Calls Try.prog 22 #[.slice A n cap] X (CloneP W6 X n L)) := Lib.hid fun X hX => by
    have hw : Below w4.heap.size w4 X := hb10.trans (hX.mono hb10.size)
    refine (cloneN_any L A n cap HL.out h12 X ((Hl4.out.below hw (Nat.le_refl _)).imp hw.size)).mono ?_
    rintro e w' ⟨v, rfl, ho, hb⟩
    rw [HL.out] at ho
    exact ⟨v, rfl, own_base ho hX.size, hX.trans (hb.mono hX.size), hb⟩
  have hc : ∀ j u, ((leafN (px : Nat) (1 + (py : Nat))).vals (.slice (some ⟨w4.heap.size, 0, none⟩) 1 1))[j]? = some u → ∀ X, Below W6.heap.size W6 X → X.cell? ⟨W5.heap.size, j, none⟩ = some u := fun j u hj X hX => laterc (by
    have := HBL.out.box.cell j
    rw [this]; simpa using hj) hX lPL
  have c0 : ∀ X, Below W6.heap.size W6 X → X.cell? ⟨W5.heap.size, 0, none⟩ = some (.int .i64 61440) := hc 0 _ rfl
  have c1 : ∀ X, Below W6.heap.size W6 X → X.cell? ⟨W5.heap.size, 1, none⟩ = some (.int .i64 4095) := hc 1 _ rfl
  have c2 : ∀ X, Below W6.heap.size W6 X → X.cell? ⟨W5.heap.size, 2, none⟩ = some (.int .u8 255) := hc 2 _ rfl
  have c3 : ∀ X, Below W6.heap.size W6 X → X.cell? ⟨W5.heap.size, 3, none⟩ = some (.int .u8 255) := hc 3 _ rfl
  have c4 : ∀ X, Below W6.heap.size W6 X → X.cell? ⟨W5.heap.size, 4, none⟩ = some (.int .u8 255) := hc 4 _ rfl
  have c5 : ∀ X, Below W6.heap.size W6 X → X.cell? ⟨W5.heap.size, 5, none⟩ = some (.int .u8 255) := hc 5 _ rfl
  have c6 : ∀ X, Below W6.heap.size W6 X → X.cell? ⟨W5.heap.size, 6, none⟩ = some (.int .u8 255) := hc 6 _ rfl
  have c7 : ∀ X, Below W6.heap.size W6 X → X.cell? ⟨W5.heap.size, 7, none⟩ = some (.int .u8 255) := hc 7 _ rfl
  have c8 : ∀ X, Below W6.heap.size W6 X → X.cell? ⟨W5.heap.size, 8, none⟩ = some (.slice (some ⟨w4.heap.size, 0, none⟩) 1 1) := hc 8 _ rfl
  have Hb10 := Lib.hid hb10
  have lPS : w4.heap.size < W6.heap.size := HBS.out.lt
  generalize hPS : w4.heap.size = PS at *
  generalize hPL : W5.heap.size = PL at *
  have HPSe := Lib.hid hPS
  clear hBW6 hoW6 hB5 hb8 hb9 hb10 hc lB5 hPS hPL
  obtain ⟨ht0, i0, z0, hi0, hz0, hsz0, hby0, hzs0, hpos0⟩ := elemNode
  go_cut [12] (fun s12 wx => LCut W6 n (nrows L ++ (leafN (px : Nat) (1 + (py : Nat))).vals (.slice (some ⟨PS, 0, none⟩) 1 1)) s12 wx)
  case first =>
    go_region_held3 (fun X => Below W6.heap.size W6 X) (first
      | assumption
      | exact (Below.refl _ _).drew
      | (refine Below.drew ?_; exact Below.alloc (Below.refl _ _) (Nat.le_refl _) _)
      | (refine Below.alloc ?_ ?_ _ <;> first | assumption | exact Below.size (by assumption)))
      (first
        | (go_at_call_of 22 (Value.slice A n cap); refine (HCN.out _ ?_).mono ?_; (· assumption); rintro e w9 ⟨v9, rfl, hown9, hbb9, hb9⟩)
        | (refine step_append_lies _ (by rfl) _ _ _ (by rfl) W6.heap.size 32 i0 z0 9 48 ht0 hi0 hz0 hsz0 hby0 hzs0 hpos0 v9 n (nrows L) (by rfl) (own_below hown9 ((Below.refl _ _).alloc (Nat.le_refl _) _) (Nat.le_refl _)) ⟨w9.heap.size, 0, none⟩ 1 1 ((leafN (px : Nat) (1 + (py : Nat))).vals (.slice (some ⟨PS, 0, none⟩) 1 1)) (by rfl) rfl (World.news_of_block (heap_alloc_new w9 _)) (Node.one _ _ _ _) (by omega) (by unfold maxLen; omega) (by omega) (by simp; exact Nat.le_succ_of_le hbb9.size) _ rfl ?_; intro g cap' w11 hown11 hgrow hat hlt; have hb11 : Below W6.heap.size W6 w11 := (Grew.mk hgrow (fun k hk => (hown9.lt k hk).1) (by simp; exact Nat.le_succ_of_le hbb9.size) : Grew W6.heap.size v9 _ w11).below (hbb9.alloc hbb9.size _))
        | (refine step_append_lies _ (by rfl) _ _ _ (by rfl) W6.heap.size 32 i0 z0 9 48 ht0 hi0 hz0 hsz0 hby0 hzs0 hpos0 v9 n (nrows L) (by rfl) hown9 ⟨W6.heap.size, 0, none⟩ 1 1 ((leafN (px : Nat) (1 + (py : Nat))).vals (.slice (some ⟨PS, 0, none⟩) 1 1)) (by rfl) rfl (World.news_of_block ((hb9.block W6.heap.size (by simp)).trans (heap_alloc_new _ _))) (Node.one _ _ _ _) (by omega) (by unfold maxLen; omega) (by omega) hbb9.size _ rfl ?_; intro g cap' w11 hown11 hgrow hat hlt; have hb11 : Below W6.heap.size W6 w11 := (Grew.mk hgrow (fun k hk => (hown9.lt k hk).1) hbb9.size : Grew W6.heap.size v9 _ w11).below hbb9))
    all_goals
      go_wp2_with fail
      go_meet
      exact ⟨g, cap', rfl, hown11, hb11⟩
  case rest =>
    obtain ⟨gM, capM, rfl, hown, hbW⟩ := hcut
    have hPSe := HPSe.out
    subst hPSe
    clear HPSe
    rw [← nrows_snoc L (leafN (px : Nat) (1 + (py : Nat)), Value.slice (some ⟨w4.heap.size, 0, none⟩) 1 1)] at hown
    clear c0 c1 c2 c3 c4 c5 c6 c7 c8 HCN ht0 hi0 hz0 hsz0 hby0 hzs0 hpos0
    have hMl : (L ++ [(leafN (px : Nat) (1 + (py : Nat)), Value.slice (some ⟨w4.heap.size, 0, none⟩) 1 1)]).length = n + 1 := by rw [List.length_append, HL.out]; rfl
    have hMf : (L ++ [(leafN (px : Nat) (1 + (py : Nat)), Value.slice (some ⟨w4.heap.size, 0, none⟩) 1 1)]).map (·.1) = leafNet l (px : Nat) (1 + (py : Nat)) := by rw [List.map_append, Hl'.out]; rfl
    have hBSw : Blk wc w4.heap.size 37 (leafM (px : Nat) (1 + (py : Nat))).vals := HBS.out.below hbW lPS
    have hBLw : Blk wc PL 32 ((leafN (px : Nat) (1 + (py : Nat))).vals (.slice (some ⟨w4.heap.size, 0, none⟩) 1 1)) := HBL.out.below hbW lPL
    have hw4 : Below w4.heap.size w4 wc := Hb10.out.trans (hbW.mono Hb10.out.size)
    obtain ⟨A0, cap0, e0, hcapM, hro⟩ := own_row (C := (L ++ [(leafN (px : Nat) (1 + (py : Nat)), Value.slice (some ⟨w4.heap.size, 0, none⟩) 1 1)]).map fun x => x.1.vals x.2) hown (fun c hc => by obtain ⟨v, _, rfl⟩ := List.mem_map.1 hc; rfl) (by rw [List.length_map]; exact hMl)
    injection e0 with e01 _ e03
    subst e01 e03
    have hnod : NodesIn wc wc.heap.size (some ⟨gM, 0, none⟩) (L ++ [(leafN (px : Nat) (1 + (py : Nat)), Value.slice (some ⟨w4.heap.size, 0, none⟩) 1 1)]) := by
      refine ⟨fun _ => ?_, fun y hy => ?_⟩
      · obtain ⟨g', e1, _, hg', hk⟩ := hro (by omega)
        exact ⟨g', 0, e1, hg', fun k hk' => by rw [Nat.zero_add]; exact hk k hk'⟩
      · rcases List.mem_append.1 hy with hy | hy
        · exact ((Hl4.out.mems y hy).below hw4 (Nat.le_refl _)).imp hw4.size
        · rw [List.mem_singleton.1 hy]
          refine ⟨some ⟨w4.heap.size, 0, none⟩, 1, rfl, Nat.le_refl _, fun _ => ⟨w4.heap.size, 0, rfl, hBSw.lt, fun k hk => ?_⟩⟩
          have hk1 : k < 1 := hk
          obtain rfl : k = 0 := by omega
          exact hBSw.box.range
    generalize hlanE : ((px : Nat) : Int) = lan at *
    generalize hcE : (1 + ((py : Nat) : Int)) = cst at *
    have hck := check_any _ (some ⟨gM, 0, none⟩) (n + 1) capM hMl (by omega) hcapM wc hnod
    rw [hMf] at hck
    have hlm : (leafNet l lan cst).length = n + 1 := by rw [leaf_len, Hll.out]
    have Hnod := Lib.hid hnod
    have HMl := Lib.hid hMl
    have HMf := Lib.hid hMf
    have HBSw := Lib.hid hBSw
    have HBLw := Lib.hid hBLw
    have HVAw := Lib.hid (HVA4.out.below hw4)
    have HRAw := Lib.hid (HRA.out.below hw4)
    have Hw0 := Lib.hid (Hb7.out.trans (hw4.mono lw4))
    have Hlw := Lib.hid ((Hl4.out.below hw4 (Nat.le_refl _)).imp hw4.size)
    have HcapM := Lib.hid hcapM
    clear hnod hMl hMf hBSw hBLw hro hown hbW hlanE hcE HBS HBL HVA4 HRA Hb7 Hl4 Hb10 lPS lPL lw4 hw4 hlx hly HPX HPY Hl hcapM
    cases hokm : okTo (leafNet l lan cst) (leafNet l lan cst).length
    · have hck' : Calls Try.prog 18 #[.slice (some ⟨gM, 0, none⟩) (n + 1) capM] wc fun e w' => (∃ t x, e = .returned (.iface t x)) ∧ Below wc.heap.size wc w' := hck.mono fun e w' h => ⟨h.1.2 hokm, h.2⟩
      have HC := Lib.hid hck'
      clear hck hck' hokm
      go_wp2_with (first
        | ((with_reducible refine HC.out.mono ?_)
           rintro e w5 ⟨⟨t, xx, rfl⟩, hb5⟩
           skip)
        )
      go_ret
      exact ⟨rfl, Hw0.out.trans (hb5.mono Hw0.out.size)⟩
    have hck' : Calls Try.prog 18 #[.slice (some ⟨gM, 0, none⟩) (n + 1) capM] wc fun e w' => e = .returned .nilIface ∧ Below wc.heap.size wc w' := hck.mono fun e w' h => ⟨h.1.1 hokm, h.2⟩
    have HC := Lib.hid hck'
    have hvm := valid_of (by rw [hlm]; omega) hokm
    rw [hlm] at hokm
    have hpm := ports_ok hvm
    obtain ⟨xv, hx⟩ := leaf_all Hv.out hvm Hsol.out
    have hsv : solveM (leafNet l lan cst) = V ++ [xv] := sol_unique hvm (sol_solve hvm) hx.sol
    have hsl : solveM l = V := sol_unique Hv.out (sol_solve Hv.out) Hsol.out
    have hRm : ∀ W, Below wc.heap.size wc W → Calls Try.prog 19 #[.slice (some ⟨gM, 0, none⟩) (n + 1) capM] W (RolPost W (leafNet l lan cst)) := fun W hb => by
      have := roles_any _ (some ⟨gM, 0, none⟩) (n + 1) capM HMl.out (by omega) HcapM.out W ((Hnod.out.below hb (Nat.le_refl _)).imp hb.size) (by rw [HMf.out]; exact hokm) (by rw [HMf.out]; exact hpm)
      rw [HMf.out] at this; exact this
    have hSm : ∀ W, Below wc.heap.size wc W → Calls Try.prog 20 #[.slice (some ⟨gM, 0, none⟩) (n + 1) capM] W (SolPost W (V ++ [xv])) := fun W hb => by
      have := solve_any _ (some ⟨gM, 0, none⟩) (n + 1) capM HMl.out (by omega) HcapM.out W ((Hnod.out.below hb (Nat.le_refl _)).imp hb.size) (by rw [HMf.out]; exact hokm) (by rw [HMf.out]; exact hpm)
      rw [HMf.out, hsv] at this; exact this
    have hsame : ∀ i, i < n → (rolesM (leafNet l lan cst)).getD i [] = (rolesM l).getD i [] := fun i hi => by
      have hi1 : i < l.length := by rw [Hll.out]; exact hi
      have hi2 : i < (leafNet l lan cst).length := by rw [hlm]; omega
      have hp : (nodeAt (leafNet l lan cst) i).ports.length = (nodeAt l i).ports.length := by rw [leaf_lt hi1]
      have h1 := rolesM_len l hi1
      have h2 := rolesM_len (leafNet l lan cst) hi2
      refine ints_ext (by rw [h1, h2, hp]) fun k hk => ?_
      rw [h2, hp] at hk
      rw [rolesM_get _ hi2 (by rw [hp]; exact hk), rolesM_get l hi1 hk, hsv, hsl]
      exact hx.role i k hi1 hk
    have hend : (rolesM (leafNet l lan cst)).getD n [] = [roleAt (leafNet l lan cst) (V ++ [xv]) n 0] := by
      have hi2 : n < (leafNet l lan cst).length := by rw [hlm]; omega
      have hp : (nodeAt (leafNet l lan cst) n).ports.length = 1 := by
        have := leaf_end (l := l) (lan := lan) (c := cst)
        rw [Hll.out] at this
        rw [this]; rfl
      have h2 := rolesM_len (leafNet l lan cst) hi2
      refine ints_ext (by rw [h2, hp]; rfl) fun k hk => ?_
      rw [h2, hp] at hk
      obtain rfl : k = 0 := by omega
      rw [rolesM_get _ hi2 (by rw [hp]; exact hk), hsv]; rfl
    have hnear := hx.near
    have hfar := hx.far
    rw [Hll.out] at hnear hfar
    have hvx : ∀ i, i < n → vecAt (V ++ [xv]) i = vecAt V i := fun i hi => leaf_vec (by rw [HVl.out, Hll.out]) (by rw [Hll.out]; exact hi)
    have hvn : vecAt (V ++ [xv]) n = xv := by
      have := leaf_vecE (l := l) (x := xv) (by rw [HVl.out, Hll.out] : V.length = l.length)
      rw [Hll.out] at this; exact this
    have hr8 : ∀ i, i < n → ((rolesM l).getD i []).length ≤ 8 := fun i hi => by
      rw [rolesM_len l (by rw [Hll.out]; exact hi)]
      have hx := valid_node Hv.out (i := i) (by rw [Hll.out]; exact hi)
      unfold rightN at hx
      simp only [Bool.and_eq_true, decide_eq_true_eq] at hx
      omega
    have hvl2 : (V ++ [xv]).length = n + 1 := by rw [List.length_append, HVl.out]; rfl
    have hlanM : ∀ i k, i < n → k < (nodeAt l i).ports.length → 0 ≤ (memAt l i k).lan ∧ (memAt l i k).lan ≤ 63 := fun i k hi hk => (cost_pos Hv.out (by rw [Hll.out]; exact hi) hk).2.2
    generalize roleAt (leafNet l lan cst) (V ++ [xv]) n 0 = rho at *
    generalize leafNet l lan cst = ms at *
    generalize V ++ [xv] = V2 at *
    have HRm := Lib.hid hRm
    have HSm := Lib.hid hSm
    have Hsame := Lib.hid hsame
    have Hend := Lib.hid hend
    have Hnear := Lib.hid hnear
    have Hfar := Lib.hid hfar
    have Hvx := Lib.hid hvx
    have Hvn := Lib.hid hvn
    have Hr8 := Lib.hid hr8
    have Hlm := Lib.hid hlm
    have Hvl2 := Lib.hid hvl2
    clear hck hck' hokm hvm hpm hx hsv hsl hRm hSm hsame hend hnear hfar hvx hvn hr8 hlm hvl2 Hnod HMf HMl hlanM
    go_upto_region 11 with (first
      | ((with_reducible refine HC.out.mono ?_)
         rintro e w5 ⟨rfl, hb5⟩
         skip)
      )
    have HS2 := Lib.hid (HSm.out w5 hb5)
    have Hb5 := Lib.hid hb5
    clear HC hb5 HSm
    go_upto_region 12 with (first
      | ((with_reducible refine HS2.out.mono ?_)
         rintro e w7 ⟨v2, rfl, hown, hb9⟩
         rw [Hvl2.out] at hown
         have hVB := vecs_at hown Hvl2.out
         obtain ⟨AW, capW, rfl, hcapW, -⟩ := id hVB)
      )
    have HVB := Lib.hid hVB
    have hb11 := Hb5.out.trans (hb9.mono Hb5.out.size)
    have HR2 := Lib.hid (HRm.out w7 hb11)
    have Hb11 := Lib.hid hb11
    clear hown hVB HS2 HRm hb9 hb11 Hb5
    go_upto_region 13 with (first
      | ((with_reducible refine HR2.out.mono ?_)
         rintro e w9 ⟨rv, vs6, rfl, hown, hrows, hb8⟩
         rw [Hlm.out] at hown hrows
         have hRB := rows_at hown hrows
         obtain ⟨BR, capB, rfl, hcapB, -⟩ := id hRB)
      )
    have HRB := Lib.hid hRB
    have HVB9 := Lib.hid (HVB.out.below hb8)
    have hb13 := Hb11.out.trans (hb8.mono Hb11.out.size)
    have HVA9 := Lib.hid (HVAw.out.below hb13)
    have HRA9 := Lib.hid (HRAw.out.below hb13)
    have lSc : w4.heap.size < w9.heap.size := Nat.lt_of_lt_of_le HBSw.out.lt hb13.size
    have lLc : PL < w9.heap.size := Nat.lt_of_lt_of_le HBLw.out.lt hb13.size
    have HBS9 := Lib.hid (Blk.below HBSw.out hb13 HBSw.out.lt)
    have HBL9 := Lib.hid (Blk.below HBLw.out hb13 HBLw.out.lt)
    have Hl9 := Lib.hid ((Hlw.out.below hb13 (Nat.le_refl _)).imp hb13.size)
    have Hw9 := Lib.hid (Hw0.out.trans (hb13.mono Hw0.out.size))
    have lw9 : w.heap.size ≤ w9.heap.size := Hw9.out.size
    have HB0 : Hid (Below w9.heap.size w9 w9) := Lib.hid (Below.refl _ _)
    clear hown hrows hRB HR2 hb8 HVB Hb11 hb13 HVAw HRAw HBSw HBLw Hlw Hw0
    generalize hPS : w4.heap.size = PS at *
    clear hPS
    go_upto_region 15 with (fail)
    go_wp2_with fail
    go_loopw [17, 18, 20, 120, 150] (fun nr _ _ i _ wr => ∃ j : Nat, j ≤ n ∧ i = .int .i64 j ∧ nr = .bool (nearTo l lan j 0) ∧ Hid (Below w9.heap.size w9 wr)) (fun _ _ _ i _ _ => n - (intOf i).toNat)
    case atStart => exact ⟨0, by omega, rfl, rfl, HB0⟩
    case round =>
      clear HB0
      obtain ⟨j, hj, rfl, rfl, HB⟩ := hrel
      by_cases hlj : j < n
      · have hjx : j < L.length := by rw [HL.out]; exact hlj
        obtain ⟨g, o, rfl, hg, hc⟩ := Hl9.out.row (by rw [List.length_map]; omega)
        have hc1 := hc j (by rw [List.length_map]; exact hjx)
        rw [List.getElem_map] at hc1
        have hmm := Hl9.out.mems L[j] (List.getElem_mem hjx)
        have hnk := Hnode.out j hjx
        have hnext : nearTo l lan (j + 1) 0 = nearTo l lan j (nodeAt l j).ports.length := nearTo_next
        have hsucc : ∀ k, nearTo l lan j (k + 1) = (nearTo l lan j k || decide ((memAt l j k).lan = lan)) := fun k => nearTo_succ
        have hmem : ∀ k, memAt l j k = portAt L[j].1 k := fun k => by unfold memAt; rw [hnk]
        have hp8 : L[j].1.ports.length ≤ 8 := by
          have hx := valid_node Hv.out (i := j) (by rw [Hll.out]; exact hlj)
          rw [hnk] at hx
          unfold rightN at hx
          simp only [Bool.and_eq_true, decide_eq_true_eq] at hx
          omega
        rw [hnk] at hnext
        generalize hN : L[j].1 = N at *
        generalize hS : L[j].2 = sv at *
        obtain ⟨A2, cap2, rfl, hcap2, hrow⟩ := hmm
        generalize hnp : N.ports.length = np at *
        have hA := HRA9.out.below HB.out
        have hBB := HRB.out.below HB.out
        have hVA := HVA9.out.below HB.out
        have hVB := HVB9.out.below HB.out
        obtain ⟨gA, A11, c11, rfl, hgA, hcA, hcc11, hIA⟩ := hA.row hlj
        obtain ⟨gB, A12, c12, rfl, hgB, hcB, hcc12, hIB⟩ := hBB.row (show j < n + 1 by omega)
        obtain ⟨A9, c9, e9, hc9, hv9⟩ := hVA
        injection e9 with e91 _ e93
        subst e91 e93
        obtain ⟨gV, rfl, hgV, hrV⟩ := hv9 (by omega)
        obtain ⟨A10, c10, e10, hc10, hv10⟩ := hVB
        injection e10 with e101 _ e103
        subst e101 e103
        obtain ⟨gW, rfl, hgW, hrW⟩ := hv10 (by omega)
        have hrV := hrV j hlj
        have hrW := hrW j (by omega)
        rw [Hvx.out j hlj] at hrW
        have hn8 := Hr8.out j hlj
        simp only [Hsame.out j hlj] at hcB hcc12 hIB
        have hcf : wr.cell? ⟨g, o + j * 9 + 8, none⟩ = some (.slice A2 np cap2) := laterc (hc1 8 _ rfl) HB.out hg
        have HIA := Lib.hid hIA
        have HIB := Lib.hid hIB
        have HrV := Lib.hid hrV
        have HrW := Lib.hid hrW
        have Hrow := Lib.hid hrow
        have Hnp := Lib.hid hnp
        have Hnext := Lib.hid hnext
        have Hsucc := Lib.hid hsucc
        have Hmem := Lib.hid hmem
        clear hc hc1 hN hS hrow hnk hA hBB hIA hIB hrV hrW hv9 hv10 hnp hnext hsucc hmem
        generalize (rolesM l).getD j [] = rl at *
        generalize vecAt V j = x1 at *
        have E1 : ∀ (W : World), (binOp .neq 48 (.agg x1.vals.toArray) (.agg x1.vals.toArray)).run Try.prog W = .ok (.bool false) W := fun W => by
          have := vec_neq x1 x1 W
          simpa using this
        have G1 : ∀ (x y : Operand) (W : World), (eqGuard .neq 48 x y (.agg x1.vals.toArray) (.agg x1.vals.toArray)).run Try.prog W = .ok () W := fun x y W => vec_guard .neq _ _ x y W
        generalize hnr : nearTo l lan j 0 = nr0 at *
        have Hnr := Lib.hid hnr
        clear hnr
        go_upto_region 19 with (fail)
        refine wp_region_ext (by kernel_rfl) (by kernel_rfl) ?_
        repeat (go_big_quiet_step (fail))
        go_big_quiet_want
        with_reducible refine quiet_load_rng (b := ?b11) (off := ?o11) (ds := ?ds11) x1.vals ?hx11 ?hr11 ?hu11 ?hd11 ?hi11 ?hk11
        case hx11 => rfl
        case hr11 => rintro _ ⟨y, rfl⟩; exact rangeAt_below HrV.out y.below hgV
        case hu11 => exact Try.underlying48
        case hd11 => rfl
        case hi11 => exact info48
        go_simp
        go_big_quiet_on
        repeat (go_big_quiet_step (fail))
        go_big_quiet_want
        with_reducible refine quiet_load_rng (b := ?b12) (off := ?o12) (ds := ?ds12) x1.vals ?hx12 ?hr12 ?hu12 ?hd12 ?hi12 ?hk12
        case hx12 => rfl
        case hr12 => rintro _ ⟨y, rfl⟩; exact rangeAt_below HrW.out y.below hgW
        case hu12 => exact Try.underlying48
        case hd12 => rfl
        case hi12 => exact info48
        go_simp
        go_big_quiet_on
        repeat (go_big_quiet_step (fail))
        go_big_quiet_step ((go_at_call 21; exact Calls.ext _ (equal_ints rl A11 A12 rl.length c11 c12 rfl (by omega) _ (HIA.out.below (Ext.below _) (Nat.le_refl _)) (HIB.out.below (Ext.below _) (Nat.le_refl _)))))
        repeat (go_big_quiet_step (fail))
        refine wpQuiet_nil ?_
        rintro Y ⟨⟨_, hb20⟩, rfl⟩
        try simp only [] at *
        have HB2 := Lib.hid (HB.out.trans (hb20.mono HB.out.size))
        have hcf2 := laterc hcf hb20 (by have := HB.out.size; omega)
        clear HB hb20 hcA hcB E1 G1 HIA HIB HrV HrW hcf
        go_wp2_with fail
        go_loopw [17, 20, 150] (fun nr _ i wr => ∃ k : Nat, k ≤ np ∧ i = .int .i64 k ∧ nr = .bool (nearTo l lan j k) ∧ Hid (Below w9.heap.size w9 wr)) (fun _ _ i _ => np - (intOf i).toNat)
        case atStart => exact ⟨0, by omega, rfl, by rw [Hnr.out], HB2⟩
        case round =>
          clear HB2 hcf2 Hnr
          obtain ⟨k, hk, rfl, rfl, HB⟩ := hrel
          by_cases hlk : k < np
          · have hkx : k < N.ports.length := by rw [Hnp.out]; exact hlk
            obtain ⟨g2, o2, rfl, hg2, hc2⟩ := Hrow.out (by rw [List.length_map]; omega)
            have hc3 := hc2 k (by rw [List.length_map]; exact hkx)
            rw [List.getElem_map, ← portAt_eq hkx] at hc3
            have Hc3 := Lib.hid (rangeAt_below hc3 HB.out hg2)
            have hsu := Hsucc.out k
            rw [Hmem.out k] at hsu
            have Hsu := Lib.hid hsu
            clear hc2 hc3 hsu
            generalize portAt N k = Mp at *
            generalize hnr : nearTo l lan j k = nr at *
            clear hnr
            go_upto_region 24 with (first
              | ((with_reducible refine wpList_load_rng (ty := 37) (b := ?b13) (o := ?o13) (ds := ?ds13) Mp.vals ?hx13 ?hB13 ?hu13 ?hd13 ?hi13 ?hk13)
                 case hx13 => rfl
                 case hB13 => exact Hc3.out
                 case hu13 => exact Try.underlying37
                 case hd13 => rfl
                 case hi13 => exact info37)
              | ((with_reducible refine wpList_store_blk (ty := 37) (b := ?b14) (o := ?o14) (t := 37) zMem Mp.vals ?hx14 ?hy14 ?hB14 ?ho14 ?hi14 ?h114 ?hk14)
                 case hx14 => rfl
                 case hy14 => rfl
                 case hB14 => exact Blk.new wr zMem 37
                 case ho14 => exact Nat.le_refl _
                 case hi14 => exact info37
                 case h114 => exact (Mem.one _)
                 intro W7 hBW7 hoW7))
            obtain ⟨hb13, lPM⟩ := Only.fresh hoW7
            have HPM : Hid (Blk W7 wr.heap.size 37 Mp.vals) := hBW7
            have hcl : W7.cell? ⟨wr.heap.size, 3, none⟩ = some (.int .i64 Mp.lan) := HPM.out.box.cell 3
            have HB7 := Lib.hid (HB.out.trans (hb13.mono HB.out.size))
            have hcp : W7.cell? ⟨PL, 8, none⟩ = some (.slice (some ⟨PS, 0, none⟩) 1 1) := laterc (HBL9.out.box.cell 8) HB7.out lLc
            have hcs : W7.cell? ⟨PS, 3, none⟩ = some (.int .i64 lan) := laterc (HBS9.out.box.cell 3) HB7.out lSc
            have lL7 : PL < W7.heap.size := Nat.lt_of_lt_of_le lLc HB7.out.size
            have lS7 : PS < W7.heap.size := Nat.lt_of_lt_of_le lSc HB7.out.size
            clear hBW7 hoW7 hb13 HB Hc3 HPM
            generalize wr.heap.size = PM at *
            cases nr
            case true =>
              refine wp_region_ext (by kernel_rfl) (by kernel_rfl) ?_
              repeat (go_big_quiet_step (fail))
              refine wpQuiet_nil ?_
              rintro Y ⟨⟨_, hb20⟩, rfl⟩
              try simp only [] at *
              have HB8 := Lib.hid (HB7.out.trans (hb20.mono HB7.out.size))
              clear HB7 hb20 hcl hcp hcs
              go_wp2_with fail
              go_roundw
              case rel => exact ⟨k + 1, by omega, by go_num, by rw [Hsu.out]; rfl, HB8⟩
              case measure => simp [intOf]; omega
            case false =>
              by_cases hll : Mp.lan = lan
              · have hdec : (Mp.lan == lan) = true := by simpa using hll
                have Hll2 := Lib.hid hll
                clear hll
                refine wp_region_ext (by kernel_rfl) (by kernel_rfl) ?_
                repeat (go_big_quiet_step (fail))
                refine wpQuiet_nil ?_
                rintro Y ⟨⟨_, hb20⟩, rfl⟩
                try simp only [] at *
                have HB8 := Lib.hid (HB7.out.trans (hb20.mono HB7.out.size))
                clear HB7 hb20 hcl hcp hcs hdec
                go_wp2_with fail
                go_roundw
                case rel => exact ⟨k + 1, by omega, by go_num, by rw [Hsu.out, Hll2.out]; simp, HB8⟩
                case measure => simp [intOf]; omega
              · have hdec : (Mp.lan == lan) = false := by simpa using hll
                have Hll2 := Lib.hid hll
                clear hll
                refine wp_region_ext (by kernel_rfl) (by kernel_rfl) ?_
                repeat (go_big_quiet_step (fail))
                refine wpQuiet_nil ?_
                rintro Y ⟨⟨_, hb20⟩, rfl⟩
                try simp only [] at *
                have HB8 := Lib.hid (HB7.out.trans (hb20.mono HB7.out.size))
                clear HB7 hb20 hcl hcp hcs hdec
                go_wp2_with fail
                go_roundw
                case rel => exact ⟨k + 1, by omega, by go_num, by rw [Hsu.out]; simp [Hll2.out], HB8⟩
                case measure => simp [intOf]; omega
          · obtain rfl : np = k := by omega
            have hne := Hnext.out
            clear Hnext
            rw [← hne]
            clear hne
            go_wp2_with fail
            go_roundw
            case rel => exact ⟨j + 1, by omega, by go_num, rfl, HB⟩
            case measure => simp [intOf]; omega
      · obtain rfl : n = j := by omega
        have Hfin := Lib.hid (Hw9.out.trans (HB.out.mono lw9))
        have hBB := HRB.out.below HB.out
        have hVB := HVB9.out.below HB.out
        obtain ⟨gB, A12, c12, rfl, hgB, hcB, hcc12, hIB⟩ := hBB.row (show n < n + 1 by omega)
        obtain ⟨A10, c10, e10, hc10, hv10⟩ := hVB
        injection e10 with e101 _ e103
        subst e101 e103
        obtain ⟨gW, rfl, hgW, hrW⟩ := hv10 (by omega)
        have hrW := hrW n (by omega)
        rw [Hvn.out] at hrW
        simp only [Hend.out] at hcB hcc12 hIB
        have hcB' : wr.cell? ⟨gB, n, none⟩ = some (.slice A12 1 c12) := hcB
        have hBr : wr.rangeAt PL 0 leafB.vals := rng_left (a := leafB.vals) (rangeAt_below HBL9.out.box.range HB.out lLc)
        have hRt : wr.rangeAt gW (n * 21) xv.root.vals := rng_left (a := xv.root.vals) hrW
        have lL : PL < wr.heap.size := Nat.lt_of_lt_of_le lLc HB.out.size
        have hnear := Hnear.out
        have hfar := Hfar.out
        generalize xv.root = rt at *
        obtain ⟨rp, re, ⟨ra, rb, rc, rd, rf, rg⟩⟩ := rt
        simp only [Br.vals, Ad.vals] at hRt
        have d0 : ∀ X, Below wr.heap.size wr X → X.cell? ⟨gW, n * 21, none⟩ = some (.int .i64 rp) := fun X hX => laterc (hRt 0 _ rfl) hX hgW
        have b0 : ∀ X, Below wr.heap.size wr X → X.cell? ⟨PL, 0, none⟩ = some (.int .i64 61440) := fun X hX => laterc (by have := hBr 0 _ rfl; rwa [Nat.zero_add] at this) hX lL
        have d1 : ∀ X, Below wr.heap.size wr X → X.cell? ⟨gW, n * 21 + 1, none⟩ = some (.int .i64 re) := fun X hX => laterc (hRt 1 _ rfl) hX hgW
        have b1 : ∀ X, Below wr.heap.size wr X → X.cell? ⟨PL, 1, none⟩ = some (.int .i64 4095) := fun X hX => laterc (by have := hBr 1 _ rfl; rwa [Nat.zero_add] at this) hX lL
        have d2 : ∀ X, Below wr.heap.size wr X → X.cell? ⟨gW, n * 21 + 2, none⟩ = some (.int .u8 ra.toNat) := fun X hX => laterc (hRt 2 _ rfl) hX hgW
        have b2 : ∀ X, Below wr.heap.size wr X → X.cell? ⟨PL, 2, none⟩ = some (.int .u8 255) := fun X hX => laterc (by have := hBr 2 _ rfl; rwa [Nat.zero_add] at this) hX lL
        have d3 : ∀ X, Below wr.heap.size wr X → X.cell? ⟨gW, n * 21 + 3, none⟩ = some (.int .u8 rb.toNat) := fun X hX => laterc (hRt 3 _ rfl) hX hgW
        have b3 : ∀ X, Below wr.heap.size wr X → X.cell? ⟨PL, 3, none⟩ = some (.int .u8 255) := fun X hX => laterc (by have := hBr 3 _ rfl; rwa [Nat.zero_add] at this) hX lL
        have d4 : ∀ X, Below wr.heap.size wr X → X.cell? ⟨gW, n * 21 + 4, none⟩ = some (.int .u8 rc.toNat) := fun X hX => laterc (hRt 4 _ rfl) hX hgW
        have b4 : ∀ X, Below wr.heap.size wr X → X.cell? ⟨PL, 4, none⟩ = some (.int .u8 255) := fun X hX => laterc (by have := hBr 4 _ rfl; rwa [Nat.zero_add] at this) hX lL
        have d5 : ∀ X, Below wr.heap.size wr X → X.cell? ⟨gW, n * 21 + 5, none⟩ = some (.int .u8 rd.toNat) := fun X hX => laterc (hRt 5 _ rfl) hX hgW
        have b5 : ∀ X, Below wr.heap.size wr X → X.cell? ⟨PL, 5, none⟩ = some (.int .u8 255) := fun X hX => laterc (by have := hBr 5 _ rfl; rwa [Nat.zero_add] at this) hX lL
        have d6 : ∀ X, Below wr.heap.size wr X → X.cell? ⟨gW, n * 21 + 6, none⟩ = some (.int .u8 rf.toNat) := fun X hX => laterc (hRt 6 _ rfl) hX hgW
        have b6 : ∀ X, Below wr.heap.size wr X → X.cell? ⟨PL, 6, none⟩ = some (.int .u8 255) := fun X hX => laterc (by have := hBr 6 _ rfl; rwa [Nat.zero_add] at this) hX lL
        have d7 : ∀ X, Below wr.heap.size wr X → X.cell? ⟨gW, n * 21 + 7, none⟩ = some (.int .u8 rg.toNat) := fun X hX => laterc (hRt 7 _ rfl) hX hgW
        have b7 : ∀ X, Below wr.heap.size wr X → X.cell? ⟨PL, 7, none⟩ = some (.int .u8 255) := fun X hX => laterc (by have := hBr 7 _ rfl; rwa [Nat.zero_add] at this) hX lL
        have hcBX : ∀ X, Below wr.heap.size wr X → X.cell? ⟨gB, n, none⟩ = some (.slice A12 1 c12) := fun X hX => laterc hcB' hX hgB
        have HIB := Lib.hid hIB
        have EQ : ∀ Y, Below wr.heap.size wr Y → Calls Try.prog 21 #[.slice A12 1 c12, .slice (some ⟨Y.heap.size, 0, none⟩) 1 1] (Y.alloc (.cells #[.int .i64 rho] 3)).drew fun e w' => e = .returned (.bool true) ∧ Below wr.heap.size wr w' := fun Y hY => by
          have hY2 := (hY.alloc hY.size (.cells #[.int .i64 rho] 3)).drew
          refine (equal_ints [rho] A12 (some ⟨Y.heap.size, 0, none⟩) 1 c12 1 rfl (by omega) _ (HIB.out.below hY2 (Nat.le_refl _)) (fun _ => ⟨Y.heap.size, rfl, by simp, fun k hk => ?_⟩)).mono ?_
          · have hk0 : k = 0 := by simpa using hk
            subst hk0
            have := (one_box Y #[.int .i64 rho] 3 _ rfl).1 0
            exact this
          · rintro e w' ⟨rfl, hb⟩
            exact ⟨rfl, hY2.trans (hb.mono hY2.size)⟩
        have HEQ := Lib.hid EQ
        have i1 : (0 : Int) ≤ (n : Int) := by omega
        have i2 : (n : Int) < ((n + 1 : Nat) : Int) := by omega
        have i3 : (n : Int) < (n : Int) + 1 := by omega
        cases hnn : nearTo l lan n 0
        · obtain ⟨hroot, hrho⟩ := hfar hnn
          have E1 : ∀ (W : World), (binOp .eql 29 (.agg #[.int .i64 rp, .int .i64 re, .int .u8 ra.toNat, .int .u8 rb.toNat, .int .u8 rc.toNat, .int .u8 rd.toNat, .int .u8 rf.toNat, .int .u8 rg.toNat]) (.agg #[.int .i64 61440, .int .i64 4095, .int .u8 255, .int .u8 255, .int .u8 255, .int .u8 255, .int .u8 255, .int .u8 255])).run Try.prog W = .ok (.bool true) W := fun W => by
            have := br_eq (⟨rp, re, ⟨ra, rb, rc, rd, rf, rg⟩⟩ : Br) leafB W
            rw [decide_eq_true hroot] at this
            exact this
          have G1 : ∀ (x y : Operand) (W : World), (eqGuard .eql 29 x y (.agg #[.int .i64 rp, .int .i64 re, .int .u8 ra.toNat, .int .u8 rb.toNat, .int .u8 rc.toNat, .int .u8 rd.toNat, .int .u8 rf.toNat, .int .u8 rg.toNat]) (.agg #[.int .i64 61440, .int .i64 4095, .int .u8 255, .int .u8 255, .int .u8 255, .int .u8 255, .int .u8 255, .int .u8 255])).run Try.prog W = .ok () W := fun x y W => br_guard .eql (⟨rp, re, ⟨ra, rb, rc, rd, rf, rg⟩⟩ : Br) leafB x y W
          clear hnear hfar hRt hBr hcB hcB' hIB hrW hnn EQ hroot hcc12 hv10
          subst hrho
          go_upto_region 28 with (fail)
          go_region_held3 (fun X => Below wr.heap.size wr X) (first
            | assumption
            | exact (Below.refl _ _).drew
            | (refine Below.drew ?_; exact Below.alloc (Below.refl _ _) (Nat.le_refl _) _)
            | (refine Below.alloc ?_ ?_ _ <;> first | assumption | exact Below.size (by assumption)))
            (first
              | (go_at_call_of 21 (Value.slice A12 1 c12); refine (HEQ.out wr (Below.refl _ _)).mono ?_; rintro e w9' ⟨rfl, hb9⟩))
          go_wp2_with fail
          go_ret
          exact ⟨rfl, Hfin.out.trans (hb9.mono Hfin.out.size)⟩
        · obtain ⟨hroot, hrho⟩ := hnear hnn
          have E1 : ∀ (W : World), (binOp .neq 29 (.agg #[.int .i64 rp, .int .i64 re, .int .u8 ra.toNat, .int .u8 rb.toNat, .int .u8 rc.toNat, .int .u8 rd.toNat, .int .u8 rf.toNat, .int .u8 rg.toNat]) (.agg #[.int .i64 61440, .int .i64 4095, .int .u8 255, .int .u8 255, .int .u8 255, .int .u8 255, .int .u8 255, .int .u8 255])).run Try.prog W = .ok (.bool true) W := fun W => by
            have := br_neq (⟨rp, re, ⟨ra, rb, rc, rd, rf, rg⟩⟩ : Br) leafB W
            rw [decide_eq_false hroot] at this
            exact this
          have G1 : ∀ (x y : Operand) (W : World), (eqGuard .neq 29 x y (.agg #[.int .i64 rp, .int .i64 re, .int .u8 ra.toNat, .int .u8 rb.toNat, .int .u8 rc.toNat, .int .u8 rd.toNat, .int .u8 rf.toNat, .int .u8 rg.toNat]) (.agg #[.int .i64 61440, .int .i64 4095, .int .u8 255, .int .u8 255, .int .u8 255, .int .u8 255, .int .u8 255, .int .u8 255])).run Try.prog W = .ok () W := fun x y W => br_guard .neq (⟨rp, re, ⟨ra, rb, rc, rd, rf, rg⟩⟩ : Br) leafB x y W
          clear hnear hfar hRt hBr hcB hcB' hIB hrW hnn EQ hroot hcc12 hv10
          subst hrho
          go_upto_region 29 with (fail)
          go_region_held3 (fun X => Below wr.heap.size wr X) (first
            | assumption
            | exact (Below.refl _ _).drew
            | (refine Below.drew ?_; exact Below.alloc (Below.refl _ _) (Nat.le_refl _) _)
            | (refine Below.alloc ?_ ?_ _ <;> first | assumption | exact Below.size (by assumption)))
            (first
              | (go_at_call_of 21 (Value.slice A12 1 c12); refine (HEQ.out wr (Below.refl _ _)).mono ?_; rintro e w9' ⟨rfl, hb9⟩))
          go_wp2_with fail
          go_ret
          exact ⟨rfl, Hfin.out.trans (hb9.mono Hfin.out.size)⟩
theorem law_TreeLeaf (v : Value) (L : List (Node × Value)) (x y : Int) (_ : (Lit.int .i64 x).wf = true) (_ : (Lit.int .i64 y).wf = true) (w : World) (h : IsNodes w v L) :
    Calls Try.prog 4 #[v, .int .i64 x, .int .i64 y] w fun e w' => e = .returned (.bool true) ∧ Below w.heap.size w w' := by
  obtain ⟨A, n, cap, rfl, hL, hcap, hn, hl⟩ := h
  exact treeLeaf_any L A n cap x y hL hn hcap w hl
end Go.Proofs.Ythpgdipcdllfdaa

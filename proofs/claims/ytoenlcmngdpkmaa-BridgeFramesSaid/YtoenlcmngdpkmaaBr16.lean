/- The law of BridgeOut. -/
import Derived.Test.YtoenlcmngdpkmaaBr15
namespace Go.Proofs.Ytoenlcmngdpkmaa
open Go.RowKit Go.ChangeShapes Go.WideShapes Go.Deep
theorem pick_hid' (x : Int) (n : Nat) (hn : 1 ≤ n) (hn2 : n ≤ 1000000) : Hid (∀ W, Calls Try.prog 16 #[.int .i64 x, .int .i64 (n : Int)] W fun e w' => e = .returned (.int .i64 (pickN x n : Nat)) ∧ W = w') := Lib.hid fun W => pick_any x n W hn (by omega)
theorem trS_st {B PT : Nat} {w0 w : World} {A : List It} {x : Trp} (h0 : Blk w0 PT 52 x.vals) (hl : PT < B) (H : St B w0 w A) : TrS PT x.vals w := trS (h0.below H.below hl)
theorem St.slOf {B : Nat} {w0 w : World} {A : List It} (H : St B w0 w A) (i : Nat) {s : Nat} {v : Value} {C : List (List Value)} (hi : A[i]? = some (slI s v C)) : SlAt w s v C := H.own _ (List.mem_of_getElem? hi)
set_option maxRecDepth 100000 in
theorem open_trip {H : Type} {enc : TypeId × Value → H} {w : World} {r : Reach} {base : Nat} {b0 : Nat} {sp : Nat → Bool} {hd : Bool} {v : Value} {d : DataW H} {ps : List MemPlace}
    (hval : Value.okWide Try.prog w r base 52 v) (h : DataW.Trod enc Try.prog w b0 sp hd 52 v d ps) : ∃ t, IsTrip w v t := by
  obtain ⟨fuel, h⟩ := h
  obtain ⟨b, e⟩ := trod_trip h
  unfold Value.okWide at hval
  rw [Try.underlying52] at hval
  obtain ⟨cs, rfl, _⟩ := hval
  refine ⟨b, ?_⟩
  have e' : cs.toList = b.vals := e
  show Value.agg cs = _
  rw [← e']
theorem at_same {L L' : List PRow} (h : L'.map PRow.p = L.map PRow.p) {k : Nat} (hk : k < L.length) (hk' : k < L'.length) : L'[k].p = L[k].p := by
  have h1 : (L'.map PRow.p)[k]? = (L.map PRow.p)[k]? := by rw [h]
  rw [List.getElem?_map, List.getElem?_map, List.getElem?_eq_getElem hk, List.getElem?_eq_getElem hk'] at h1
  exact Option.some.inj h1
theorem sets_good {P : List PSet} (h : setsM P = true) : goodL P = true ∧ 0 < P.length := by
  unfold setsM at h
  simp only [Bool.and_eq_true, Bool.not_eq_true', decide_eq_false_iff_not, decide_eq_true_eq, List.all_eq_true] at h
  unfold goodL
  rw [decide_eq_true h.2.1, Bool.true_and, List.all_eq_true]
  exact ⟨fun p hp => (h.2.2 p hp).2, by omega⟩
theorem in_facts {L : List PSet} {p : PSet} {port : Nat} {f : Fm} {t : Int} {es : List Ent} {x : Nat × Fm} (h : x ∈ inM L p port f t es) :
    ∃ j, ∃ h : j < L.length, x = (j, leaveM f (vidM p f.tags) (decide (vidM p f.tags ∈ L[j].bare))) ∧ j ≠ port ∧ L[j].state = 3 ∧ vidM p f.tags ∈ L[j].ins ∧ p.state = 3 ∧ vidM p f.tags ≠ 0 := by
  unfold inM at h
  split at h
  · rename_i hc
    obtain ⟨j, hj, e, hg⟩ := outFrom_mem h
    rw [Nat.zero_add] at e hg
    unfold goesM at hg
    unfold hearsM at hc
    simp only [Bool.and_eq_true, Bool.not_eq_true', decide_eq_false_iff_not, decide_eq_true_eq] at hg hc
    exact ⟨j, hj, e, hg.1, hg.2.1, hg.2.2.1, hc.2, hc.1.2.1⟩
  · cases h
theorem in_rise (L : List PSet) (p : PSet) (port : Nat) (f : Fm) (t : Int) (es : List Ent) : (inM L p port f t es).Pairwise fun x y => x.1 < y.1 := by
  unfold inM
  split
  · exact outFrom_rise ..
  · exact List.Pairwise.nil
theorem res_rise {R : List SRow} {M : List (Nat × Fm)} (h : R.map SRow.res = M) (hM : M.Pairwise fun x y => x.1 < y.1) {j k : Nat} (hjk : j < k) (hk : k < R.length) : (R[j]'(by omega)).i < R[k].i := by
  rw [← h] at hM
  have := (List.pairwise_iff_getElem.1 hM) j k (by rw [List.length_map]; omega) (by rw [List.length_map]; exact hk) hjk
  rw [List.getElem_map, List.getElem_map] at this
  exact this
def zSent : List Value := .int .i64 0 :: zFm
set_option maxRecDepth 100000 in
set_option maxHeartbeats 16000000 in
theorem law_BridgeOut (v0 : Value) (L : List PRow) (v1 : Value) (X : List Trp) (v2 : Value) (t : Trp) (w : World) (hv0 : IsPorts w v0 L) (hv1 : IsTrips w v1 X) (hv2 : IsTrip w v2 t) :
    Calls Try.prog 7 #[v0, v1, v2] w fun e w' => e = .returned (.bool true) ∧ Below w.heap.size w w' := by
  unfold IsTrip at hv2
  subst hv2
  have hBx := Blk.new w t.vals 52
  have hb0 : Below w.heap.size w (w.alloc (.cells t.vals.toArray 52)) := (Below.refl _ _).alloc (Nat.le_refl _) _
  have hlt : w.heap.size < (w.alloc (.cells t.vals.toArray 52)).heap.size := by simp
  obtain ⟨hs0, hin0, hlen0, hsub0⟩ := hv0
  obtain ⟨hs1, hlen1⟩ := hv1
  obtain ⟨A0, k0, e0, _, _⟩ := hs0.row
  obtain ⟨A1, k1, e1, _, _⟩ := hs1.row
  rw [List.length_map] at e0 e1
  have HSets : Hid (∀ W, Below w.heap.size w W → Calls Try.prog 29 #[v0] W fun e w' => e = .returned (.bool (setsM (L.map PRow.p))) ∧ Below W.heap.size W w') := Lib.hid fun W hW => sets_any L v0 W ⟨hs0.below hW, fun q hq => (hin0 q hq).below hW, hlen0, hsub0⟩
  have HSv : Hid (∀ W, Below w.heap.size w W → setsM (L.map PRow.p) = true → X.length ≤ 60 → Calls Try.prog 30 #[v0, v1] W (Served W (L.map PRow.p) X)) := Lib.hid fun W hW hg h60 => served_any L v0 W (hs0.below hW) (fun q hq => (hin0 q hq).below hW) (sets_good hg).1 (by have := (sets_good hg).2; rwa [List.length_map] at this) X v1 (hs1.below hW) h60
  have HIn : Hid (∀ W, Below w.heap.size w W → ∀ q ∈ L, q.In W) := Lib.hid fun W hW q hq => (hin0 q hq).below hW
  have HS0 : Hid (∀ W, Below w.heap.size w W → SlAt W 4 v0 (L.map PRow.vals)) := Lib.hid fun W hW => hs0.below hW
  have HBx := Lib.hid hBx
  have Hb0 := Lib.hid hb0
  have HRow0 : Hid (0 < L.length → ∃ g o, A0 = some ⟨g, o, none⟩ ∧ ∀ W, Below w.heap.size w W → g < W.heap.size ∧ ∀ j (hj : j < L.length), W.rangeAt g (o + j * 4) L[j].vals) := Lib.hid fun h0 => by
    obtain ⟨A, c, e, _, hr⟩ := hs0.row
    rw [List.length_map, e0] at e
    injection e with e2 _ _
    obtain ⟨g, o, e3, lg, hk⟩ := hr (by rw [List.length_map]; exact h0)
    refine ⟨g, o, e2.trans e3, fun W hW => ⟨Nat.lt_of_lt_of_le lg hW.size, fun j hj => ?_⟩⟩
    have := hk j (by rw [List.length_map]; exact hj)
    rw [List.getElem_map] at this
    exact rangeAt_below this hW lg
  clear hs0 hs1 hin0 hsub0 hBx hb0
  subst e0
  subst e1
  go_enter Try.func7, Try.ntmps7
  go_upto_region 1 with (fail)
  generalize w.alloc (.cells t.vals.toArray 52) = W1 at *
  cases hg : setsM (L.map PRow.p)
  · rw [hg] at HSets
    clear hg
    go_wp2_with (first
      | ((with_reducible refine (passes_any _).mono ?_)
         rintro e w2 ⟨rfl, hb2⟩
         have HB2 := Lib.hid (Hb0.out.trans (hb2.mono Hb0.out.size))
         clear hb2)
      | ((with_reducible refine (HSets.out _ HB2.out).mono ?_)
         rintro e w3 ⟨rfl, hb3⟩
         skip)
      )
    go_ret
    exact ⟨rfl, HB2.out.trans (hb3.mono HB2.out.size)⟩
  by_cases h60 : 60 < X.length
  · rw [hg] at HSets
    clear hg
    go_wp2_with (first
      | ((with_reducible refine (passes_any _).mono ?_)
         rintro e w2 ⟨rfl, hb2⟩
         have HB2 := Lib.hid (Hb0.out.trans (hb2.mono Hb0.out.size))
         clear hb2)
      | ((with_reducible refine (HSets.out _ HB2.out).mono ?_)
         rintro e w3 ⟨rfl, hb3⟩
         skip)
      )
    go_ret
    exact ⟨rfl, HB2.out.trans (hb3.mono HB2.out.size)⟩
  have HGood := Lib.hid (sets_good hg)
  have HSv2 : Hid (∀ W, Below w.heap.size w W → Calls Try.prog 30 #[.slice A0 L.length k0, .slice A1 X.length k1] W (Served W (L.map PRow.p) X)) := Lib.hid fun W hW => HSv.out W hW hg (by omega)
  rw [hg] at HSets
  have h60' : X.length ≤ 60 := by omega
  clear hg HSv
  obtain ⟨g0, o0, rfl, hrow0⟩ := HRow0.out (by have h2 := HGood.out.2; rwa [List.length_map] at h2)
  have HRw := Lib.hid hrow0
  clear hrow0 HRow0
  have hn8 : L.length ≤ 8 ∧ 0 < L.length := by
    have h1 := (good_ok rfl HGood.out.1).1
    have h2 := HGood.out.2
    rw [List.length_map] at h2
    exact ⟨h1, h2⟩
  unfold Served at HSv2
  have hkn := served_ok (L.map PRow.p) (by rw [List.length_map]; exact hn8.1) (by rw [List.length_map]; exact hn8.2) X ([], 0) 0 (by omega) KnowOk.nil
  generalize (servedM (L.map PRow.p) ([], 0) 0 X).2 = now at *
  generalize hes : (servedM (L.map PRow.p) ([], 0) 0 X).1 = KN at *
  clear hes
  obtain ⟨es, kt⟩ := KN
  try simp only [] at hkn
  obtain ⟨hko, hnow0, hnow1⟩ := hkn
  have hnow : now ≤ 1140 := by omega
  have Hko := Lib.hid hko
  obtain ⟨n, hn⟩ : ∃ n, L.length = n := ⟨_, rfl⟩
  have Hn := Lib.hid hn
  rw [hn] at HSets HSv2 hn8 HS0 ⊢
  obtain ⟨hn8, hn0⟩ := hn8
  clear hko hn hnow1
  go_upto_region 8 with (first
    | ((with_reducible refine (passes_any _).mono ?_)
       rintro e w2 ⟨rfl, hb2⟩
       have HB2 := Lib.hid (hb2.trans (Below.refl _ _))
       have HBw2 := Lib.hid (Hb0.out.trans (hb2.mono Hb0.out.size))
       clear hb2)
    | ((with_reducible refine (HSets.out _ HBw2.out).mono ?_)
       rintro e w3 ⟨rfl, hb3⟩
       have HB3 := Lib.hid (HB2.out.trans (hb3.mono HB2.out.size))
       have HBw3 := Lib.hid (HBw2.out.trans (hb3.mono HBw2.out.size))
       clear hb3)
    | ((with_reducible refine (HSv2.out _ HBw3.out).mono ?_)
       rintro e w4 ⟨Bp, T, sv, tb, L', rfl, hL', h4⟩
       have H4 := Lib.hid h4
       have HL := Lib.hid hL'
       clear h4 hL' HSv2 HSets)
    )
  have hT0 : Blk w3 w.heap.size 52 t.vals := HBx.out.below HB3.out hlt
  have lT0 : w.heap.size < w3.heap.size := Nat.lt_of_lt_of_le hlt HB3.out.size
  have hpk := pickN_lt t.port n hn0
  have HPK := pick_hid' t.port n (by omega) (by omega)
  have HH := Lib.hid H4.out.drew
  have hS0 := trS_st hT0 lT0 HH.out
  have cP : ∀ X, TrS w.heap.size t.vals X → X.cell? ⟨w.heap.size, 0, none⟩ = some (.int .i64 t.port) := fun X h => h.p
  have cR : Hid (∀ X, TrS w.heap.size t.vals X → X.rangeAt w.heap.size 0 t.vals) := Lib.hid fun X h => h.r
  go_cut [9, 10] (fun p q wx => ∃ PA tg, p = .pointer (some ⟨PA, 0, none⟩) ∧ q = .int .i64 (pickN t.port n : Nat) ∧ Hid (St w3.heap.size w3 wx (slI 4 tg (tagv (carryM t).tags) :: bk PA 58 ((carryM t).vals tg) :: brd Bp T kt sv tb L' es [])))
  case first =>
    refine wp_region_last (TrS w.heap.size t.vals) 9 (by kernel_rfl) hS0 (fun hHeld => ?_)
    refine wpAnyG_take 2 (oi := ?o9) ?v9 ?hi9 (by kernel_rfl) (by kernel_rfl) (by decide) (by kernel_rfl) (by kernel_rfl) ?hq9 ?hg9 ?hy9 (by assumption) ?hk9
    case hi9 => (simp only [List.getElem?_toArray, List.getElem?_cons_succ, List.getElem?_cons_zero]; rfl)
    case hq9 => exact fun _ _ _ h => h
    case hg9 => rfl
    case hy9 => (intro X hX; go_simp; try with_reducible rfl)
    try simp only [Act.put, List.setIfInBounds_toArray, List.set_cons_zero, List.set_cons_succ]
    refine wpAnyG_take 3 (oi := ?o10) ?v10 ?hi10 (by kernel_rfl) (by kernel_rfl) (by decide) (by kernel_rfl) (by kernel_rfl) ?hq10 ?hg10 ?hy10 (by assumption) ?hk10
    case hi10 => (simp only [List.getElem?_toArray, List.getElem?_cons_succ, List.getElem?_cons_zero]; rfl)
    case hq10 => exact fun _ _ _ h => h
    case hg10 => rfl
    case hy10 => (intro X hX; go_simp; try with_reducible rfl)
    try simp only [Act.put, List.setIfInBounds_toArray, List.set_cons_zero, List.set_cons_succ]
    refine wpAnyG_take 4 (oi := ?o11) ?v11 ?hi11 (by kernel_rfl) (by kernel_rfl) (by decide) (by kernel_rfl) (by kernel_rfl) ?hq11 ?hg11 ?hy11 (by assumption) ?hk11
    case hi11 => (simp only [List.getElem?_toArray, List.getElem?_cons_succ, List.getElem?_cons_zero]; rfl)
    case hq11 => exact fun _ _ _ h => h
    case hg11 => rfl
    case hy11 => (intro X hX; go_simp; try with_reducible rfl)
    try simp only [Act.put, List.setIfInBounds_toArray, List.set_cons_zero, List.set_cons_succ]
    refine wpAnyG_take 5 (oi := ?o12) ?v12 ?hi12 (by kernel_rfl) (by kernel_rfl) (by decide) (by kernel_rfl) (by kernel_rfl) ?hq12 ?hg12 ?hy12 (by assumption) ?hk12
    case hi12 => (simp only [List.getElem?_toArray, List.getElem?_cons_succ, List.getElem?_cons_zero]; rfl)
    case hq12 => exact fun _ _ _ h => h
    case hg12 => rfl
    case hy12 => (intro X hX; go_simp; try with_reducible rfl)
    try simp only [Act.put, List.setIfInBounds_toArray, List.set_cons_zero, List.set_cons_succ]
    refine wpAnyG_take 0 (oi := ?o13) (.agg (t.vals).toArray) ?hi13 (by kernel_rfl) (by kernel_rfl) (by decide) (by kernel_rfl) (by kernel_rfl) ?hq13 ?hg13 ?hy13 (by assumption) ?hk13
    case hi13 => (simp only [List.getElem?_toArray, List.getElem?_cons_succ, List.getElem?_cons_zero]; rfl)
    case hq13 => exact fun _ _ _ h => h
    case hg13 => rfl
    case hy13 => exact fun X hX => exec_load_rng (ty := 52) (t.vals) rfl (cR.out X hX) Try.underlying52 rfl info52
    try simp only [Act.put, List.setIfInBounds_toArray, List.set_cons_zero, List.set_cons_succ]
    refine wpAnyG_two 1 7 (o := ?oca) (u := ?uca) (by kernel_rfl) ?hica ?hjca ?hgca ?huca ?haca ?hbca
    case hica => (simp only [List.getElem?_toArray, List.getElem?_cons_succ, List.getElem?_cons_zero]; rfl)
    case hjca => (simp only [List.getElem?_toArray, List.getElem?_cons_succ, List.getElem?_cons_zero]; rfl)
    case hgca => rfl
    case huca => rfl
    case haca =>
      intro K hK
      go_simp
      refine (carried_any t _).mono ?_
      rintro e X1 ⟨tg, rfl, hc1⟩
      have hSx := trS_st hT0 lT0 (HH.out.add (k := slI 4 tg (tagv (carryM t).tags)) hc1.below hc1.head (fun g hg => hc1.low _ (List.mem_cons_self ..) g hg))
      refine hK.out _ _ (fun _ => hSx) (fun _ => ?_)
      have hHeld := hSx
      have HH := Lib.hid (HH.out.add (k := slI 4 tg (tagv (carryM t).tags)) hc1.below hc1.head (fun g hg => hc1.low _ (List.mem_cons_self ..) g hg))
      clear hK K hc1 hSx
      try simp only [Act.put, List.setIfInBounds_toArray, List.set_cons_zero, List.set_cons_succ]
      refine wpAnyG_two 6 7 (o := ?ocb) (u := ?ucb) (by kernel_rfl) ?hicb ?hjcb ?hgcb ?hucb ?hacb ?hbcb
      case hicb => (simp only [List.getElem?_toArray, List.getElem?_cons_succ, List.getElem?_cons_zero]; rfl)
      case hjcb => (simp only [List.getElem?_toArray, List.getElem?_cons_succ, List.getElem?_cons_zero]; rfl)
      case hgcb => rfl
      case hucb => rfl
      case hacb =>
        intro K hK
        go_simp
        refine (HPK.out _).mono ?_
        rintro e X1 ⟨rfl, rfl⟩
        refine hK.out _ _ (fun _ => hHeld) (fun _ => ?_)
        clear hK K
        try simp only [Act.put, List.setIfInBounds_toArray, List.set_cons_zero, List.set_cons_succ]
        refine wpAnyG_one 7 (o := ?o14) (by kernel_rfl) ?hi14 ?hg14 ?hk14
        case hi14 => (simp only [List.getElem?_toArray, List.getElem?_cons_succ, List.getElem?_cons_zero]; rfl)
        case hg14 => rfl
        intro K hK
        go_simp
        have hSx := trS_st hT0 lT0 (HH.out.alloc zFm 58)
        refine hK.out _ _ (fun _ => hSx) (fun _ => ?_)
        have hHeld := hSx
        have HH := Lib.hid (HH.out.alloc zFm 58)
        clear hK K hSx
        try simp only [Act.put, List.setIfInBounds_toArray, List.set_cons_zero, List.set_cons_succ]
        have hone := slat_one' (HH.out.item (k := slI 4 tg (tagv (carryM t).tags)) (List.mem_of_getElem? (i := 1) rfl) : SlAt _ 4 tg _)
        refine wpAnyG_one 8 (o := ?o15) (by kernel_rfl) ?hi15 ?hg15 ?hk15
        case hi15 => (simp only [List.getElem?_toArray, List.getElem?_cons_succ, List.getElem?_cons_zero]; rfl)
        case hg15 => rfl
        intro K hK
        refine oper_store_blk (ty := 58) (o := 0) (t := 58) zFm ((carryM t).vals tg) (by rfl) (by rfl) (by exact HH.out.at 0 rfl) (by exact Nat.le_refl _) info58 (Fm.one _ hone) ?_
        intro W9 hB9 ho9
        have h9 := (HH.out.pull 0 rfl).sets hB9 ho9
        have hSx := trS_st hT0 lT0 h9
        refine hK.out _ _ (fun _ => hSx) (fun _ => ?_)
        have hHeld := hSx
        have HH := Lib.hid h9
        clear hK K hSx h9 hB9 ho9
        try simp only [Act.put, List.setIfInBounds_toArray, List.set_cons_zero, List.set_cons_succ]
        refine wpAnyG_one 9 (o := ?o16) (by kernel_rfl) ?hi16 ?hg16 ?hk16
        case hi16 => (simp only [List.getElem?_toArray, List.getElem?_cons_succ, List.getElem?_cons_zero]; rfl)
        case hg16 => rfl
        intro K hK
        go_simp
        refine hK.out _ _ (fun h => absurd rfl h) (fun _ => ?_)
        refine wpAnyG_done (by kernel_rfl) ?_ _
        have hfin := HH.out.swap
        have HFin := Lib.hid hfin
        clear hK hHeld HH hfin
        go_wp2_with fail
        go_meet
        exact ⟨_, tg, rfl, rfl, Lib.hid HFin.out⟩
      case hbcb =>
        intro K hK
        go_simp
        have hSx := trS_st hT0 lT0 (HH.out.alloc zFm 58)
        refine hK.out _ _ (fun _ => hSx) (fun _ => ?_)
        have hHeld := hSx
        have HH := Lib.hid (HH.out.alloc zFm 58)
        clear hK K hSx
        try simp only [Act.put, List.setIfInBounds_toArray, List.set_cons_zero, List.set_cons_succ]
        refine wpAnyG_one 6 (o := ?o17) (by kernel_rfl) ?hi17 ?hg17 ?hk17
        case hi17 => (simp only [List.getElem?_toArray, List.getElem?_cons_succ, List.getElem?_cons_zero]; rfl)
        case hg17 => rfl
        intro K hK
        go_simp
        refine (HPK.out _).mono ?_
        rintro e X1 ⟨rfl, rfl⟩
        refine hK.out _ _ (fun _ => hHeld) (fun _ => ?_)
        clear hK K
        try simp only [Act.put, List.setIfInBounds_toArray, List.set_cons_zero, List.set_cons_succ]
        have hone := slat_one' (HH.out.item (k := slI 4 tg (tagv (carryM t).tags)) (List.mem_of_getElem? (i := 1) rfl) : SlAt _ 4 tg _)
        refine wpAnyG_one 8 (o := ?o18) (by kernel_rfl) ?hi18 ?hg18 ?hk18
        case hi18 => (simp only [List.getElem?_toArray, List.getElem?_cons_succ, List.getElem?_cons_zero]; rfl)
        case hg18 => rfl
        intro K hK
        refine oper_store_blk (ty := 58) (o := 0) (t := 58) zFm ((carryM t).vals tg) (by rfl) (by rfl) (by exact HH.out.at 0 rfl) (by exact Nat.le_refl _) info58 (Fm.one _ hone) ?_
        intro W9 hB9 ho9
        have h9 := (HH.out.pull 0 rfl).sets hB9 ho9
        have hSx := trS_st hT0 lT0 h9
        refine hK.out _ _ (fun _ => hSx) (fun _ => ?_)
        have hHeld := hSx
        have HH := Lib.hid h9
        clear hK K hSx h9 hB9 ho9
        try simp only [Act.put, List.setIfInBounds_toArray, List.set_cons_zero, List.set_cons_succ]
        refine wpAnyG_one 9 (o := ?o19) (by kernel_rfl) ?hi19 ?hg19 ?hk19
        case hi19 => (simp only [List.getElem?_toArray, List.getElem?_cons_succ, List.getElem?_cons_zero]; rfl)
        case hg19 => rfl
        intro K hK
        go_simp
        refine hK.out _ _ (fun h => absurd rfl h) (fun _ => ?_)
        refine wpAnyG_done (by kernel_rfl) ?_ _
        have hfin := HH.out.swap
        have HFin := Lib.hid hfin
        clear hK hHeld HH hfin
        go_wp2_with fail
        go_meet
        exact ⟨_, tg, rfl, rfl, Lib.hid HFin.out⟩
    case hbca =>
      intro K hK
      go_simp
      have hSx := trS_st hT0 lT0 (HH.out.alloc zFm 58)
      refine hK.out _ _ (fun _ => hSx) (fun _ => ?_)
      have hHeld := hSx
      have HH := Lib.hid (HH.out.alloc zFm 58)
      clear hK K hSx
      try simp only [Act.put, List.setIfInBounds_toArray, List.set_cons_zero, List.set_cons_succ]
      refine wpAnyG_one 1 (o := ?o20) (by kernel_rfl) ?hi20 ?hg20 ?hk20
      case hi20 => (simp only [List.getElem?_toArray, List.getElem?_cons_succ, List.getElem?_cons_zero]; rfl)
      case hg20 => rfl
      intro K hK
      go_simp
      refine (carried_any t _).mono ?_
      rintro e X1 ⟨tg, rfl, hc1⟩
      have hSx := trS_st hT0 lT0 (HH.out.add (k := slI 4 tg (tagv (carryM t).tags)) hc1.below hc1.head (fun g hg => hc1.low _ (List.mem_cons_self ..) g hg))
      refine hK.out _ _ (fun _ => hSx) (fun _ => ?_)
      have hHeld := hSx
      have HH := Lib.hid (HH.out.add (k := slI 4 tg (tagv (carryM t).tags)) hc1.below hc1.head (fun g hg => hc1.low _ (List.mem_cons_self ..) g hg))
      clear hK K hc1 hSx
      try simp only [Act.put, List.setIfInBounds_toArray, List.set_cons_zero, List.set_cons_succ]
      refine wpAnyG_one 6 (o := ?o21) (by kernel_rfl) ?hi21 ?hg21 ?hk21
      case hi21 => (simp only [List.getElem?_toArray, List.getElem?_cons_succ, List.getElem?_cons_zero]; rfl)
      case hg21 => rfl
      intro K hK
      go_simp
      refine (HPK.out _).mono ?_
      rintro e X1 ⟨rfl, rfl⟩
      refine hK.out _ _ (fun _ => hHeld) (fun _ => ?_)
      clear hK K
      try simp only [Act.put, List.setIfInBounds_toArray, List.set_cons_zero, List.set_cons_succ]
      have hone := slat_one' (HH.out.item (k := slI 4 tg (tagv (carryM t).tags)) (List.mem_of_getElem? (i := 0) rfl) : SlAt _ 4 tg _)
      refine wpAnyG_one 8 (o := ?o22) (by kernel_rfl) ?hi22 ?hg22 ?hk22
      case hi22 => (simp only [List.getElem?_toArray, List.getElem?_cons_succ, List.getElem?_cons_zero]; rfl)
      case hg22 => rfl
      intro K hK
      refine oper_store_blk (ty := 58) (o := 0) (t := 58) zFm ((carryM t).vals tg) (by rfl) (by rfl) (by exact HH.out.at 1 rfl) (by exact Nat.le_refl _) info58 (Fm.one _ hone) ?_
      intro W9 hB9 ho9
      have h9 := (HH.out.pull 1 rfl).sets hB9 ho9
      have hSx := trS_st hT0 lT0 h9
      refine hK.out _ _ (fun _ => hSx) (fun _ => ?_)
      have hHeld := hSx
      have HH := Lib.hid h9
      clear hK K hSx h9 hB9 ho9
      try simp only [Act.put, List.setIfInBounds_toArray, List.set_cons_zero, List.set_cons_succ]
      refine wpAnyG_one 9 (o := ?o23) (by kernel_rfl) ?hi23 ?hg23 ?hk23
      case hi23 => (simp only [List.getElem?_toArray, List.getElem?_cons_succ, List.getElem?_cons_zero]; rfl)
      case hg23 => rfl
      intro K hK
      go_simp
      refine hK.out _ _ (fun h => absurd rfl h) (fun _ => ?_)
      refine wpAnyG_done (by kernel_rfl) ?_ _
      have hfin := HH.out.swap
      have HFin := Lib.hid hfin
      clear hK hHeld HH hfin
      go_wp2_with fail
      go_meet
      exact ⟨_, tg, rfl, rfl, Lib.hid HFin.out⟩
  case rest =>
    obtain ⟨PA, tg, rfl, rfl, H5⟩ := hcut
    clear HH hS0 cP cR HPK H4
    generalize wc = w5 at *
    have hLl : L'.length = n := by
      have := congrArg List.length HL.out
      rw [List.length_map, List.length_map, Hn.out] at this
      exact this
    have HLl := Lib.hid hLl
    have hgo := good_ok HL.out HGood.out.1
    have Hgo := Lib.hid hgo
    have h6 := H5.out.perm ((List.Perm.refl _).trans (brd_under Bp T kt sv tb L' es [slI 4 tg (tagv (carryM t).tags), bk PA 58 ((carryM t).vals tg)] []))
    have H6 : Hid (St w3.heap.size w3 w5 (brd Bp T kt sv tb L' es (slI 4 tg (tagv (carryM t).tags) :: bk PA 58 ((carryM t).vals tg) :: []))) := Lib.hid h6
    generalize hpt : pickN t.port n = pt at *
    have hptL : pt < L'.length := by rw [hLl]; exact hpk
    have hptL0 : pt < L.length := by rw [Hn.out]; exact hpk
    have hpp : L'[pt].p = L[pt].p := at_same HL.out hptL0 hptL
    have HVid : Hid (∀ X, St w3.heap.size w3 X (brd Bp T kt sv tb L' es (slI 4 tg (tagv (carryM t).tags) :: bk PA 58 ((carryM t).vals tg) :: [])) → Calls Try.prog 32 #[.pointer (some ⟨Bp, 0, none⟩), .int .i64 (pt : Int), .agg ((carryM t).vals tg).toArray] X fun e w' => e = .returned (.int .i64 (vidM L[pt].p (carryM t).tags)) ∧ Below X.heap.size X w') := Lib.hid fun X hX => by
      have h := vid_any pt hptL (carryM t) tg X hX.ports (hX.slOf 5 rfl) (by omega) (by have := (hgo.2.1 _ (List.getElem_mem hptL)).few; omega)
      rw [hpp] at h
      exact h
    have HIns : Hid (∀ X, St w3.heap.size w3 X (brd Bp T kt sv tb L' es (slI 4 tg (tagv (carryM t).tags) :: bk PA 58 ((carryM t).vals tg) :: [])) → Calls Try.prog 33 #[.pointer (some ⟨Bp, 0, none⟩), .int .i64 (pt : Int), .agg ((carryM t).vals tg).toArray, .int .i64 now] X fun e w' => ∃ ov R, e = .returned (.tuple #[ov, .nilIface]) ∧ R.map SRow.res = inM (L.map PRow.p) L[pt].p pt (carryM t) now (tabM L[pt].p pt (carryM t) now (es, kt)).1 ∧ St w3.heap.size w3 w' (ownI 65 22 ov R.length (srows R) :: tagsI R :: [])) := Lib.hid fun X hX => by
      refine (in_st hX pt hptL hgo.1 hgo.2.1 Hko.out.1 Hko.out.2.1 now Hko.out.2.2 (by omega) (carry_ok t) hgo.2.2).mono ?_
      rintro e w' ⟨ov, R, tb', rfl, hR, hs⟩
      refine ⟨ov, R, rfl, ?_, hs.sub (by simp)⟩
      rw [hR, hpp]
      first | (congr 1; done) | (congr 1; exact HL.out)
    clear H5 h6 hpp hgo hpt
    go_upto_region 10 with (first
      | ((with_reducible refine wpList_load_box (ty := 58) (b := ?b24) (ds := ?ds24) ((carryM t).vals tg) ?hx24 ?hB24 ?hu24 ?hd24 ?hi24 ?hk24)
         case hx24 => rfl
         case hB24 => exact (Blk.box (H6.out.at 6 rfl))
         case hu24 => exact Try.underlying58
         case hd24 => rfl
         case hi24 => exact info58)
      | ((with_reducible refine (HVid.out _ H6.out).mono ?_)
         rintro e w6 ⟨rfl, hb6⟩
         have H6 := Lib.hid (H6.out.ext hb6)
         clear hb6)
      )
    go_upto_region 14 with (first
      | ((with_reducible refine wpList_load_box (ty := 58) (b := ?b26) (ds := ?ds26) ((carryM t).vals tg) ?hx26 ?hB26 ?hu26 ?hd26 ?hi26 ?hk26)
         case hx26 => rfl
         case hB26 => exact (Blk.box (H6.out.at 6 rfl))
         case hu26 => exact Try.underlying58
         case hd26 => rfl
         case hi26 => exact info58)
      | ((with_reducible refine (HIns.out _ H6.out).mono ?_)
         rintro e w7 ⟨ov, R, rfl, hR, h7⟩
         have HR := Lib.hid hR
         have H7 := Lib.hid h7
         clear hR h7 H6)
      )
    clear HVid HIns
    have hfx : ∀ k (hk : k < R.length), ∃ j, ∃ hj : j < L.length, R[k].i = j ∧ j ≠ pt ∧ L[j].p.state = 3 ∧ vidM L[pt].p (carryM t).tags ∈ L[j].p.ins ∧ L[pt].p.state = 3 ∧ vidM L[pt].p (carryM t).tags ≠ 0 := fun k hk => by
      have hm : R[k].res ∈ inM (L.map PRow.p) L[pt].p pt (carryM t) now (tabM L[pt].p pt (carryM t) now (es, kt)).1 := by
        rw [← HR.out]; exact List.mem_map.2 ⟨_, List.getElem_mem hk, rfl⟩
      obtain ⟨j, hj, e, h1, h2, h3, h4, h5⟩ := in_facts hm
      rw [List.length_map] at hj
      rw [List.getElem_map] at h2 h3
      exact ⟨j, hj, congrArg Prod.fst e, h1, h2, h3, h4, h5⟩
    have hup : ∀ j k (hjk : j < k) (hk : k < R.length), (R[j]'(by omega)).i < R[k].i := fun j k hjk hk => res_rise HR.out (in_rise ..) hjk hk
    have Hfx := Lib.hid hfx
    have Hup := Lib.hid hup
    generalize vidM L[pt].p (carryM t).tags = vid at *
    obtain ⟨Ao, co, eo, hro⟩ := out_rows (H7.out.head : World.ownsRow w7 0 65 22 ov R.length (srows R))
    have Hro := Lib.hid hro
    have Htg : Hid (∀ r ∈ R, r.tv.oneCell' = true) := Lib.hid fun r hr => slat_one' (H7.out.tail.head r hr : SlAt w7 4 r.tv _)
    have HB7 : Hid (Below w.heap.size w w7) := Lib.hid (HBw3.out.trans (H7.out.below.mono HBw3.out.size))
    clear hfx hup hro
    subst eo
    obtain ⟨m, hm⟩ : ∃ m, R.length = m := ⟨_, rfl⟩
    have Hm := Lib.hid hm
    rw [hm]
    clear hm H7
    have Hz : Hid (Below w7.heap.size w7 w7) := Lib.hid (Below.refl _ _)
    have hm9 : m ≤ 9223372036854775806 := by
      have := congrArg List.length HR.out
      rw [List.length_map, Hm.out] at this
      have h2 : (inM (L.map PRow.p) L[pt].p pt (carryM t) now (tabM L[pt].p pt (carryM t) now (es, kt)).1).length ≤ 8 := by
        unfold inM
        split
        · have := outFrom_len (carryM t) (vidM L[pt].p (carryM t).tags) pt (onlyM L[pt].p (carryM t) now (tabM L[pt].p pt (carryM t) now (es, kt)).1) (L.map PRow.p) 0
          rw [List.length_map, Hn.out] at this
          omega
        · simp
      omega
    go_wp2_with fail
    go_loopw [14, 16, 58] (fun last _ i wr => ∃ (k : Nat) (lv : Int), k ≤ m ∧ i = .int .i64 k ∧ last = .int .i64 lv ∧ Hid (∀ j (hj : j < R.length), k ≤ j → lv < R[j].i) ∧ Hid (Below w7.heap.size w7 wr)) (fun _ _ i _ => m - (intOf i).toNat)
    case atStart => exact ⟨0, -1, by omega, rfl, rfl, Lib.hid (fun j hj _ => by omega), Hz⟩
    case round =>
      obtain ⟨k, lv, hk, rfl, rfl, Hlv, HB⟩ := hrel
      by_cases hlk : k < m
      · have hkx : k < R.length := by rw [Hm.out]; exact hlk
        obtain ⟨gs, rfl, lgs, hrs⟩ := Hro.out (by omega)
        have Hr1 := Lib.hid (rangeAt_below (hrs k hkx) HB.out lgs)
        have Hone := Lib.hid (SRow.one R[k] (Htg.out _ (List.getElem_mem hkx)))
        obtain ⟨j, hj, hij, f1, f2, f3, f4, f5⟩ := Hfx.out k hkx
        have hlvj := Hlv.out k hkx (Nat.le_refl _)
        have hnext : ∀ i (hi : i < R.length), k + 1 ≤ i → (R[k].i : Int) < R[i].i := fun i hi h => by
          have := Hup.out k i (by omega) hi
          omega
        have Hnext := Lib.hid hnext
        rw [hij] at hlvj Hnext
        clear hrs hnext
        obtain ⟨r, hr⟩ : ∃ r, R[k] = r := ⟨_, rfl⟩
        rw [hr] at Hr1 Hone hij
        go_upto_region 17 with (first
          | ((with_reducible refine wpList_load_rng (ty := 65) (b := ?b28) (o := ?o28) (ds := ?ds28) r.vals ?hx28 ?hB28 ?hu28 ?hd28 ?hi28 ?hk28)
             case hx28 => rfl
             case hB28 => exact Hr1.out
             case hu28 => exact Try.underlying65
             case hd28 => rfl
             case hi28 => exact info65)
          | ((with_reducible refine wpList_store_blk (ty := 65) (b := ?b29) (o := ?o29) (t := 65) zSent r.vals ?hx29 ?hy29 ?hB29 ?ho29 ?hi29 ?h129 ?hk29)
             case hx29 => rfl
             case hy29 => rfl
             case hB29 => exact Blk.new wr zSent 65
             case ho29 => exact Nat.le_refl _
             case hi29 => exact info65
             case h129 => exact Hone.out
             intro W9 hBW9 hoW9))
        obtain ⟨hb8, lPS⟩ := Only.fresh hoW9
        have hc0 : W9.cell? ⟨wr.heap.size, 0, none⟩ = some (.int .i64 (r.i : Int)) := (Blk.box hBW9).cell 0
        rw [hij] at hc0
        have HB9 := Lib.hid (HB.out.trans (hb8.mono HB.out.size))
        have HBw := Lib.hid (HB7.out.trans (HB9.out.mono HB7.out.size))
        obtain ⟨lg9, hp9⟩ := HRw.out W9 HBw.out
        have d3 : W9.cell? ⟨g0, o0 + j * 4 + 3, none⟩ = some (.int .i64 L[j].p.state) := hp9 j hj 3 _ rfl
        have d1 : W9.cell? ⟨g0, o0 + j * 4 + 1, none⟩ = some L[j].iv := hp9 j hj 1 _ rfl
        have d4 : W9.cell? ⟨g0, o0 + pt * 4 + 3, none⟩ = some (.int .i64 L[pt].p.state) := hp9 pt hptL0 3 _ rfl
        rw [f2] at d3
        rw [f4] at d4
        have hqi := HIn.out W9 HBw.out L[j] (List.getElem_mem hj)
        have hfew : L[j].p.ins.length ≤ 64 := ((good_ok rfl HGood.out.1).2.1 _ (List.getElem_mem hj)).few
        have HC : Hid (Calls Try.prog 34 #[L[j].iv, .int .i64 vid] W9 fun e w' => e = .returned (.bool true) ∧ Below W9.heap.size W9 w') := Lib.hid (by
          have h := has_int L[j].p.ins vid L[j].iv W9 (by omega) hqi.1
          rw [decide_eq_true f3] at h
          exact h)
        have hjn : ¬ n ≤ j := by rw [← Hn.out]; omega
        have hj0 : ¬ (j : Int) ≤ lv := by omega
        have hjp : ((j : Int) == (pt : Int)) = false := beq_eq_false_iff_ne.2 (by omega)
        have hv0 : (vid == 0) = false := beq_eq_false_iff_ne.2 f5
        have hpn : pt < n := hpk
        clear hBW9 hoW9 hb8 HB hp9 hqi f1 f2 f3 f4 f5 hij hr Hr1 Hone hlvj Hlv
        generalize L[j].iv = jv at *
        generalize wr.heap.size = PS at *
        go_wp2_with (first
          | ((with_reducible refine HC.out.mono ?_)
             rintro e w10 ⟨rfl, hb10⟩
             have e4 := laterc d4 hb10 lg9
             have c10 := laterc hc0 hb10 lPS
             have HB10 := Lib.hid (HB9.out.trans (hb10.mono HB9.out.size))
             clear hb10)
          )
        go_roundw
        case rel => exact ⟨k + 1, _, by omega, by go_num, rfl, Hnext, HB10⟩
        case measure => simp [intOf]; omega
      · go_wp2_with fail
        go_ret
        exact ⟨rfl, HB7.out.trans (HB.out.mono HB7.out.size)⟩
end Go.Proofs.Ytoenlcmngdpkmaa

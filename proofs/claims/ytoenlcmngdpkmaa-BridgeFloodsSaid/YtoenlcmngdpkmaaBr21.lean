/- The law of BridgeFloods. -/
import Derived.Test.YtoenlcmngdpkmaaBr18
import Derived.Test.YtoenlcmngdpkmaaHeldG
namespace Go.Proofs.Ytoenlcmngdpkmaa
open Go.RowKit Go.ChangeShapes Go.WideShapes Go.Deep
theorem trS_at {B PT : Nat} {w0 w : World} {A : List It} {x : Trp} (H : St B w0 w A) (h : bk PT 52 x.vals ∈ A) : TrS PT x.vals w := trS (H.own _ h)
theorem brd_skip {B : Nat} {w0 w : World} {A : List It} {Bp T : Nat} {now : Int} {sv tv : Value} {L : List PRow} {es : List Ent} {x y : It} (H : St B w0 w (x :: y :: brd Bp T now sv tv L es A)) : St B w0 w (x :: y :: A) :=
  H.sub (show List.Sublist (x :: y :: A) (x :: y :: (brd Bp T now sv tv L es [] ++ A)) from ((List.sublist_append_right _ _).cons_cons _).cons_cons _)
theorem floods_law (P : List PSet) (p : PSet) (t1 x2 : Trp) (hm : t1.many = false) (hx : x2 = { t1 with many := true }) {es : List Ent} {kt now : Int} {pt : Nat} (hko : KnowOk (es, kt) now)
    (hvid : vidM p (carryM t1).tags ≠ 0) (hne : (carryM t1).src ≠ (carryM t1).dst) (hl : lookM es (vidM p (carryM t1).tags) (carryM t1).dst now 100 < 0) :
    (inM P p pt (carryM x2) now (tabM p pt (carryM x2) now (es, kt)).1).map (·.1) = (inM P p pt (carryM t1) now (tabM p pt (carryM t1) now (es, kt)).1).map (·.1) := by
  have htags : (carryM x2).tags = (carryM t1).tags := by subst hx; rfl
  have hsrc : (carryM x2).src = (carryM t1).src := by subst hx; rfl
  have h1 : hearsM p (carryM x2) = hearsM p (carryM t1) := by
    unfold hearsM
    rw [htags, show resM (carryM x2).dst = false from res_adOf _ _, show resM (carryM t1).dst = false from res_adOf _ _]
  unfold inM
  rw [h1]
  split
  · rename_i hc
    have hh : hearsM p (carryM t1) = true := by
      rw [Bool.and_eq_true] at hc
      exact hc.1
    rw [heard1 hh, heard1 (h1.trans hh), htags]
    refine outFrom_same _ _ _ _ _ _ ?_ ?_ _ _
    · unfold onlyM
      have : manyM (carryM x2).dst = true := by
        have e : (carryM x2).dst = toM (pickN x2.dst 60) x2.many := rfl
        rw [e, show x2.many = true from by rw [hx]]
        show decide ((3 : UInt8).toNat % 2 = 1) = true; decide
      rw [this, if_pos rfl]; omega
    · unfold onlyM
      have : manyM (carryM t1).dst = false := by
        have e : (carryM t1).dst = toM (pickN t1.dst 60) t1.many := rfl
        rw [e, hm]
        show decide ((2 : UInt8).toNat % 2 = 1) = false; decide
      rw [this]
      exact look_not (Ne.symm hne) (fun e he => (hko.1.port e he).1) hl
  · rfl
theorem many_set (t1 x2 : Trp) (hm : t1.many = false) (hx : x2 = { t1 with many := true }) (tg : Value) : ((carryM t1).vals tg).set 0 (.int .u8 3) = (carryM x2).vals tg := by
  subst hx
  obtain ⟨a, b, c, d, e, m⟩ := t1
  subst hm
  rfl
theorem many_two (t1 : Trp) (hm : t1.many = false) : ((carryM t1).dst.a.toNat : Int) = 2 := by
  have e : (carryM t1).dst = toM (pickN t1.dst 60) t1.many := rfl
  rw [e, hm]
  rfl
theorem row_at {R : List SRow} {M : List Nat} (h : R.map (·.i) = M) {k : Nat} (hk : k < R.length) (hk2 : k < M.length) : R[k].i = M[k] := by
  subst h
  rw [List.getElem_map]
set_option maxRecDepth 100000 in
set_option maxHeartbeats 16000000 in
theorem law_BridgeFloods (v0 : Value) (L : List PRow) (v1 : Value) (X : List Trp) (v2 : Value) (t : Trp) (w : World) (hv0 : IsPorts w v0 L) (hv1 : IsTrips w v1 X) (hv2 : IsTrip w v2 t) :
    Calls Try.prog 9 #[v0, v1, v2] w fun e w' => e = .returned (.bool true) ∧ Below w.heap.size w w' := by
  unfold IsTrip at hv2
  subst hv2
  obtain ⟨hs0, hin0, hlen0, hsub0⟩ := hv0
  obtain ⟨hs1, hlen1⟩ := hv1
  obtain ⟨A0, k0, e0, _, _⟩ := hs0.row
  obtain ⟨A1, k1, e1, _, _⟩ := hs1.row
  rw [List.length_map] at e0 e1
  have HSets : Hid (∀ W, Below w.heap.size w W → Calls Try.prog 29 #[v0] W fun e w' => e = .returned (.bool (setsM (L.map PRow.p))) ∧ Below W.heap.size W w') := Lib.hid fun W hW => sets_any L v0 W ⟨hs0.below hW, fun q hq => (hin0 q hq).below hW, hlen0, hsub0⟩
  have HSv : Hid (∀ W, Below w.heap.size w W → setsM (L.map PRow.p) = true → X.length ≤ 60 → Calls Try.prog 30 #[v0, v1] W (Served W (L.map PRow.p) X)) := Lib.hid fun W hW hg h60 => served_any L v0 W (hs0.below hW) (fun q hq => (hin0 q hq).below hW) (sets_good hg).1 (by have := (sets_good hg).2; rwa [List.length_map] at this) X v1 (hs1.below hW) h60
  have H1 := Lib.hid ((St.init w).alloc t.vals 52)
  clear hs0 hs1 hin0 hsub0
  subst e0
  subst e1
  go_enter Try.func9, Try.ntmps9
  go_upto_region 1 with (fail)
  generalize w.alloc (.cells t.vals.toArray 52) = W1 at *
  cases hg : setsM (L.map PRow.p)
  · rw [hg] at HSets
    clear hg
    go_wp2_with (first
      | ((with_reducible refine (passes_any _).mono ?_)
         rintro e w2 ⟨rfl, hb2⟩
         have H2 := Lib.hid (H1.out.ext hb2)
         clear hb2)
      | ((with_reducible refine (HSets.out _ H2.out.below).mono ?_)
         rintro e w3 ⟨rfl, hb3⟩
         have H3 := Lib.hid (H2.out.ext hb3)
         clear hb3)
      )
    go_ret
    exact ⟨rfl, H3.out.below⟩
  by_cases h60 : 60 < X.length
  · rw [hg] at HSets
    clear hg
    go_wp2_with (first
      | ((with_reducible refine (passes_any _).mono ?_)
         rintro e w2 ⟨rfl, hb2⟩
         have H2 := Lib.hid (H1.out.ext hb2)
         clear hb2)
      | ((with_reducible refine (HSets.out _ H2.out.below).mono ?_)
         rintro e w3 ⟨rfl, hb3⟩
         have H3 := Lib.hid (H2.out.ext hb3)
         clear hb3)
      )
    go_ret
    exact ⟨rfl, H3.out.below⟩
  have HGood := Lib.hid (sets_good hg)
  have HSv2 : Hid (∀ W, Below w.heap.size w W → Calls Try.prog 30 #[.slice A0 L.length k0, .slice A1 X.length k1] W (Served W (L.map PRow.p) X)) := Lib.hid fun W hW => HSv.out W hW hg (by omega)
  rw [hg] at HSets
  have h60' : X.length ≤ 60 := by omega
  clear hg HSv
  have hn8 : L.length ≤ 8 ∧ 0 < L.length := by
    have h1 := (good_ok rfl HGood.out.1).1
    have h2 := HGood.out.2
    rw [List.length_map] at h2
    exact ⟨h1, h2⟩
  unfold Served at HSv2
  have hkn := served_ok (L.map PRow.p) (by rw [List.length_map]; exact hn8.1) (by rw [List.length_map]; exact hn8.2) X ([], 0) 0 (by omega) KnowOk.nil
  generalize (servedM (L.map PRow.p) ([], 0) 0 X).2 = now at *
  generalize hes : (servedM (L.map PRow.p) ([], 0) 0 X).1 = KN at *
  clear hes
  obtain ⟨es, kt⟩ := KN
  try simp only [] at hkn
  obtain ⟨hko, hnow0, hnow1⟩ := hkn
  have hnow : now ≤ 1140 := by omega
  have Hko := Lib.hid hko
  obtain ⟨n, hn⟩ : ∃ n, L.length = n := ⟨_, rfl⟩
  have Hn := Lib.hid hn
  rw [hn] at HSets HSv2 hn8 ⊢
  obtain ⟨hn8, hn0⟩ := hn8
  clear hko hn hnow1
  go_upto_region 6 with (first
    | ((with_reducible refine (passes_any _).mono ?_)
       rintro e w2 ⟨rfl, hb2⟩
       have H2 := Lib.hid (H1.out.ext hb2)
       clear hb2 H1)
    | ((with_reducible refine (HSets.out _ H2.out.below).mono ?_)
       rintro e w3 ⟨rfl, hb3⟩
       have H3 := Lib.hid (H2.out.ext hb3)
       clear hb3 H2)
    | ((with_reducible refine (HSv2.out _ H3.out.below).mono ?_)
       rintro e w4 ⟨Bp, T, sv, tb, L', rfl, hL', h4⟩
       have H4 := Lib.hid (H3.out.app h4)
       have HL := Lib.hid hL'
       clear h4 hL' H3)
    )
  go_upto_region 9 with (first
    | ((with_reducible refine (HSv2.out _ H4.out.below).mono ?_)
       rintro e w5 ⟨Cp, U, sw, tc, L2, rfl, hL2, h5⟩
       have H5 := Lib.hid (H4.out.app h5)
       have HL2 := Lib.hid hL2
       clear h5 hL2 H4)
    )
  clear HSv2 HSets
  obtain ⟨t1, ht1⟩ : ∃ t1 : Trp, t1 = ⟨t.port, t.src, t.dst, t.vid, t.after, false⟩ := ⟨_, rfl⟩
  have c5 : w5.cell? ⟨w.heap.size, 5, none⟩ = some (.bool t.many) := (H5.out.at 10 rfl : Blk w5 w.heap.size 52 t.vals).box.cell 5
  have z5 : w5.frozen? ⟨w.heap.size, 5, none⟩ = false := (H5.out.at 10 rfl : Blk w5 w.heap.size 52 t.vals).box.frozen 5
  have h6 : St w.heap.size w (w5.setCell ⟨w.heap.size, 5, none⟩ (.bool false)) (bk w.heap.size 52 t1.vals :: brd Cp U kt sw tc L2 es (brd Bp T kt sv tb L' es [])) := by
    have h := (H5.out.pull 10 rfl).set 5 (.bool false) (by rw [Trp.len]; decide)
    subst ht1
    exact h
  have H6 := Lib.hid h6
  clear h6
  go_upto_region 10 with (fail)
  clear c5 z5 H5
  generalize World.setCell _ _ _ = w6 at *
  have Hm : Hid (t1.many = false) := Lib.hid (by rw [ht1])
  clear ht1
  have HH := Lib.hid H6.out.drew
  have hS0 := trS_at HH.out (List.mem_of_getElem? (i := 0) rfl)
  have cP : ∀ X, TrS w.heap.size t1.vals X → X.cell? ⟨w.heap.size, 0, none⟩ = some (.int .i64 t1.port) := fun X h => h.p
  have cR : Hid (∀ X, TrS w.heap.size t1.vals X → X.rangeAt w.heap.size 0 t1.vals) := Lib.hid fun X h => h.r
  have hpk := pickN_lt t1.port n hn0
  have HPK := pick_hid' t1.port n (by omega) (by omega)
  go_cut [11, 12] (fun p q wx => ∃ PA tg, p = .pointer (some ⟨PA, 0, none⟩) ∧ q = .int .i64 (pickN t1.port n : Nat) ∧ Hid (St w.heap.size w wx (slI 4 tg (tagv (carryM t1).tags) :: bk PA 58 ((carryM t1).vals tg) :: bk w.heap.size 52 t1.vals :: brd Cp U kt sw tc L2 es (brd Bp T kt sv tb L' es []))))
  case first =>
    refine wp_region_last (TrS w.heap.size t1.vals) 9 (by kernel_rfl) hS0 (fun hHeld => ?_)
    refine wpAnyG_take 2 (oi := ?o10) ?v10 ?hi10 (by kernel_rfl) (by kernel_rfl) (by decide) (by kernel_rfl) (by kernel_rfl) ?hq10 ?hg10 ?hy10 (by assumption) ?hk10
    case hi10 => (simp only [List.getElem?_toArray, List.getElem?_cons_succ, List.getElem?_cons_zero]; rfl)
    case hq10 => exact fun _ _ _ h => h
    case hg10 => rfl
    case hy10 => (intro X hX; go_simp; try with_reducible rfl)
    try simp only [Act.put, List.setIfInBounds_toArray, List.set_cons_zero, List.set_cons_succ]
    refine wpAnyG_take 3 (oi := ?o11) ?v11 ?hi11 (by kernel_rfl) (by kernel_rfl) (by decide) (by kernel_rfl) (by kernel_rfl) ?hq11 ?hg11 ?hy11 (by assumption) ?hk11
    case hi11 => (simp only [List.getElem?_toArray, List.getElem?_cons_succ, List.getElem?_cons_zero]; rfl)
    case hq11 => exact fun _ _ _ h => h
    case hg11 => rfl
    case hy11 => (intro X hX; go_simp; try with_reducible rfl)
    try simp only [Act.put, List.setIfInBounds_toArray, List.set_cons_zero, List.set_cons_succ]
    refine wpAnyG_take 4 (oi := ?o12) ?v12 ?hi12 (by kernel_rfl) (by kernel_rfl) (by decide) (by kernel_rfl) (by kernel_rfl) ?hq12 ?hg12 ?hy12 (by assumption) ?hk12
    case hi12 => (simp only [List.getElem?_toArray, List.getElem?_cons_succ, List.getElem?_cons_zero]; rfl)
    case hq12 => exact fun _ _ _ h => h
    case hg12 => rfl
    case hy12 => (intro X hX; go_simp; try with_reducible rfl)
    try simp only [Act.put, List.setIfInBounds_toArray, List.set_cons_zero, List.set_cons_succ]
    refine wpAnyG_take 5 (oi := ?o13) ?v13 ?hi13 (by kernel_rfl) (by kernel_rfl) (by decide) (by kernel_rfl) (by kernel_rfl) ?hq13 ?hg13 ?hy13 (by assumption) ?hk13
    case hi13 => (simp only [List.getElem?_toArray, List.getElem?_cons_succ, List.getElem?_cons_zero]; rfl)
    case hq13 => exact fun _ _ _ h => h
    case hg13 => rfl
    case hy13 => (intro X hX; go_simp; try with_reducible rfl)
    try simp only [Act.put, List.setIfInBounds_toArray, List.set_cons_zero, List.set_cons_succ]
    refine wpAnyG_take 0 (oi := ?o14) (.agg (t1.vals).toArray) ?hi14 (by kernel_rfl) (by kernel_rfl) (by decide) (by kernel_rfl) (by kernel_rfl) ?hq14 ?hg14 ?hy14 (by assumption) ?hk14
    case hi14 => (simp only [List.getElem?_toArray, List.getElem?_cons_succ, List.getElem?_cons_zero]; rfl)
    case hq14 => exact fun _ _ _ h => h
    case hg14 => rfl
    case hy14 => exact fun X hX => exec_load_rng (ty := 52) (t1.vals) rfl (cR.out X hX) Try.underlying52 rfl info52
    try simp only [Act.put, List.setIfInBounds_toArray, List.set_cons_zero, List.set_cons_succ]
    refine wpAnyG_two 1 7 (o := ?oca) (u := ?uca) (by kernel_rfl) ?hica ?hjca ?hgca ?huca ?haca ?hbca
    case hica => (simp only [List.getElem?_toArray, List.getElem?_cons_succ, List.getElem?_cons_zero]; rfl)
    case hjca => (simp only [List.getElem?_toArray, List.getElem?_cons_succ, List.getElem?_cons_zero]; rfl)
    case hgca => rfl
    case huca => rfl
    case haca =>
      intro K hK
      go_simp
      refine (carried_any t1 _).mono ?_
      rintro e X1 ⟨tg, rfl, hc1⟩
      have hSx := trS_at (HH.out.add (k := slI 4 tg (tagv (carryM t1).tags)) hc1.below hc1.head (fun g hg => hc1.low _ (List.mem_cons_self ..) g hg)) (List.mem_of_getElem? (i := 1) rfl)
      refine hK.out _ _ (fun _ => hSx) (fun _ => ?_)
      have hHeld := hSx
      have HH := Lib.hid (HH.out.add (k := slI 4 tg (tagv (carryM t1).tags)) hc1.below hc1.head (fun g hg => hc1.low _ (List.mem_cons_self ..) g hg))
      clear hK K hc1 hSx
      try simp only [Act.put, List.setIfInBounds_toArray, List.set_cons_zero, List.set_cons_succ]
      refine wpAnyG_two 6 7 (o := ?ocb) (u := ?ucb) (by kernel_rfl) ?hicb ?hjcb ?hgcb ?hucb ?hacb ?hbcb
      case hicb => (simp only [List.getElem?_toArray, List.getElem?_cons_succ, List.getElem?_cons_zero]; rfl)
      case hjcb => (simp only [List.getElem?_toArray, List.getElem?_cons_succ, List.getElem?_cons_zero]; rfl)
      case hgcb => rfl
      case hucb => rfl
      case hacb =>
        intro K hK
        go_simp
        refine (HPK.out _).mono ?_
        rintro e X1 ⟨rfl, rfl⟩
        refine hK.out _ _ (fun _ => hHeld) (fun _ => ?_)
        clear hK K
        try simp only [Act.put, List.setIfInBounds_toArray, List.set_cons_zero, List.set_cons_succ]
        refine wpAnyG_one 7 (o := ?o15) (by kernel_rfl) ?hi15 ?hg15 ?hk15
        case hi15 => (simp only [List.getElem?_toArray, List.getElem?_cons_succ, List.getElem?_cons_zero]; rfl)
        case hg15 => rfl
        intro K hK
        go_simp
        have hSx := trS_at (HH.out.alloc zFm 58) (List.mem_of_getElem? (i := 2) rfl)
        refine hK.out _ _ (fun _ => hSx) (fun _ => ?_)
        have hHeld := hSx
        have HH := Lib.hid (HH.out.alloc zFm 58)
        clear hK K hSx
        try simp only [Act.put, List.setIfInBounds_toArray, List.set_cons_zero, List.set_cons_succ]
        have hone := slat_one' (HH.out.item (k := slI 4 tg (tagv (carryM t1).tags)) (List.mem_of_getElem? (i := 1) rfl) : SlAt _ 4 tg _)
        refine wpAnyG_one 8 (o := ?o16) (by kernel_rfl) ?hi16 ?hg16 ?hk16
        case hi16 => (simp only [List.getElem?_toArray, List.getElem?_cons_succ, List.getElem?_cons_zero]; rfl)
        case hg16 => rfl
        intro K hK
        refine oper_store_blk (ty := 58) (o := 0) (t := 58) zFm ((carryM t1).vals tg) (by rfl) (by rfl) (by exact HH.out.at 0 rfl) (by exact Nat.le_refl _) info58 (Fm.one _ hone) ?_
        intro W9 hB9 ho9
        have h9 := (HH.out.pull 0 rfl).sets hB9 ho9
        have hSx := trS_at (h9) (List.mem_of_getElem? (i := 2) rfl)
        refine hK.out _ _ (fun _ => hSx) (fun _ => ?_)
        have hHeld := hSx
        have HH := Lib.hid h9
        clear hK K hSx h9 hB9 ho9
        try simp only [Act.put, List.setIfInBounds_toArray, List.set_cons_zero, List.set_cons_succ]
        refine wpAnyG_one 9 (o := ?o17) (by kernel_rfl) ?hi17 ?hg17 ?hk17
        case hi17 => (simp only [List.getElem?_toArray, List.getElem?_cons_succ, List.getElem?_cons_zero]; rfl)
        case hg17 => rfl
        intro K hK
        go_simp
        refine hK.out _ _ (fun h => absurd rfl h) (fun _ => ?_)
        refine wpAnyG_done (by kernel_rfl) ?_ _
        have hfin := HH.out.swap
        have HFin := Lib.hid hfin
        clear hK hHeld HH hfin
        go_wp2_with fail
        go_meet
        exact ⟨_, tg, rfl, rfl, Lib.hid HFin.out⟩
      case hbcb =>
        intro K hK
        go_simp
        have hSx := trS_at (HH.out.alloc zFm 58) (List.mem_of_getElem? (i := 2) rfl)
        refine hK.out _ _ (fun _ => hSx) (fun _ => ?_)
        have hHeld := hSx
        have HH := Lib.hid (HH.out.alloc zFm 58)
        clear hK K hSx
        try simp only [Act.put, List.setIfInBounds_toArray, List.set_cons_zero, List.set_cons_succ]
        refine wpAnyG_one 6 (o := ?o18) (by kernel_rfl) ?hi18 ?hg18 ?hk18
        case hi18 => (simp only [List.getElem?_toArray, List.getElem?_cons_succ, List.getElem?_cons_zero]; rfl)
        case hg18 => rfl
        intro K hK
        go_simp
        refine (HPK.out _).mono ?_
        rintro e X1 ⟨rfl, rfl⟩
        refine hK.out _ _ (fun _ => hHeld) (fun _ => ?_)
        clear hK K
        try simp only [Act.put, List.setIfInBounds_toArray, List.set_cons_zero, List.set_cons_succ]
        have hone := slat_one' (HH.out.item (k := slI 4 tg (tagv (carryM t1).tags)) (List.mem_of_getElem? (i := 1) rfl) : SlAt _ 4 tg _)
        refine wpAnyG_one 8 (o := ?o19) (by kernel_rfl) ?hi19 ?hg19 ?hk19
        case hi19 => (simp only [List.getElem?_toArray, List.getElem?_cons_succ, List.getElem?_cons_zero]; rfl)
        case hg19 => rfl
        intro K hK
        refine oper_store_blk (ty := 58) (o := 0) (t := 58) zFm ((carryM t1).vals tg) (by rfl) (by rfl) (by exact HH.out.at 0 rfl) (by exact Nat.le_refl _) info58 (Fm.one _ hone) ?_
        intro W9 hB9 ho9
        have h9 := (HH.out.pull 0 rfl).sets hB9 ho9
        have hSx := trS_at (h9) (List.mem_of_getElem? (i := 2) rfl)
        refine hK.out _ _ (fun _ => hSx) (fun _ => ?_)
        have hHeld := hSx
        have HH := Lib.hid h9
        clear hK K hSx h9 hB9 ho9
        try simp only [Act.put, List.setIfInBounds_toArray, List.set_cons_zero, List.set_cons_succ]
        refine wpAnyG_one 9 (o := ?o20) (by kernel_rfl) ?hi20 ?hg20 ?hk20
        case hi20 => (simp only [List.getElem?_toArray, List.getElem?_cons_succ, List.getElem?_cons_zero]; rfl)
        case hg20 => rfl
        intro K hK
        go_simp
        refine hK.out _ _ (fun h => absurd rfl h) (fun _ => ?_)
        refine wpAnyG_done (by kernel_rfl) ?_ _
        have hfin := HH.out.swap
        have HFin := Lib.hid hfin
        clear hK hHeld HH hfin
        go_wp2_with fail
        go_meet
        exact ⟨_, tg, rfl, rfl, Lib.hid HFin.out⟩
    case hbca =>
      intro K hK
      go_simp
      have hSx := trS_at (HH.out.alloc zFm 58) (List.mem_of_getElem? (i := 1) rfl)
      refine hK.out _ _ (fun _ => hSx) (fun _ => ?_)
      have hHeld := hSx
      have HH := Lib.hid (HH.out.alloc zFm 58)
      clear hK K hSx
      try simp only [Act.put, List.setIfInBounds_toArray, List.set_cons_zero, List.set_cons_succ]
      refine wpAnyG_one 1 (o := ?o21) (by kernel_rfl) ?hi21 ?hg21 ?hk21
      case hi21 => (simp only [List.getElem?_toArray, List.getElem?_cons_succ, List.getElem?_cons_zero]; rfl)
      case hg21 => rfl
      intro K hK
      go_simp
      refine (carried_any t1 _).mono ?_
      rintro e X1 ⟨tg, rfl, hc1⟩
      have hSx := trS_at (HH.out.add (k := slI 4 tg (tagv (carryM t1).tags)) hc1.below hc1.head (fun g hg => hc1.low _ (List.mem_cons_self ..) g hg)) (List.mem_of_getElem? (i := 2) rfl)
      refine hK.out _ _ (fun _ => hSx) (fun _ => ?_)
      have hHeld := hSx
      have HH := Lib.hid (HH.out.add (k := slI 4 tg (tagv (carryM t1).tags)) hc1.below hc1.head (fun g hg => hc1.low _ (List.mem_cons_self ..) g hg))
      clear hK K hc1 hSx
      try simp only [Act.put, List.setIfInBounds_toArray, List.set_cons_zero, List.set_cons_succ]
      refine wpAnyG_one 6 (o := ?o22) (by kernel_rfl) ?hi22 ?hg22 ?hk22
      case hi22 => (simp only [List.getElem?_toArray, List.getElem?_cons_succ, List.getElem?_cons_zero]; rfl)
      case hg22 => rfl
      intro K hK
      go_simp
      refine (HPK.out _).mono ?_
      rintro e X1 ⟨rfl, rfl⟩
      refine hK.out _ _ (fun _ => hHeld) (fun _ => ?_)
      clear hK K
      try simp only [Act.put, List.setIfInBounds_toArray, List.set_cons_zero, List.set_cons_succ]
      have hone := slat_one' (HH.out.item (k := slI 4 tg (tagv (carryM t1).tags)) (List.mem_of_getElem? (i := 0) rfl) : SlAt _ 4 tg _)
      refine wpAnyG_one 8 (o := ?o23) (by kernel_rfl) ?hi23 ?hg23 ?hk23
      case hi23 => (simp only [List.getElem?_toArray, List.getElem?_cons_succ, List.getElem?_cons_zero]; rfl)
      case hg23 => rfl
      intro K hK
      refine oper_store_blk (ty := 58) (o := 0) (t := 58) zFm ((carryM t1).vals tg) (by rfl) (by rfl) (by exact HH.out.at 1 rfl) (by exact Nat.le_refl _) info58 (Fm.one _ hone) ?_
      intro W9 hB9 ho9
      have h9 := (HH.out.pull 1 rfl).sets hB9 ho9
      have hSx := trS_at (h9) (List.mem_of_getElem? (i := 2) rfl)
      refine hK.out _ _ (fun _ => hSx) (fun _ => ?_)
      have hHeld := hSx
      have HH := Lib.hid h9
      clear hK K hSx h9 hB9 ho9
      try simp only [Act.put, List.setIfInBounds_toArray, List.set_cons_zero, List.set_cons_succ]
      refine wpAnyG_one 9 (o := ?o24) (by kernel_rfl) ?hi24 ?hg24 ?hk24
      case hi24 => (simp only [List.getElem?_toArray, List.getElem?_cons_succ, List.getElem?_cons_zero]; rfl)
      case hg24 => rfl
      intro K hK
      go_simp
      refine hK.out _ _ (fun h => absurd rfl h) (fun _ => ?_)
      refine wpAnyG_done (by kernel_rfl) ?_ _
      have hfin := HH.out.swap
      have HFin := Lib.hid hfin
      clear hK hHeld HH hfin
      go_wp2_with fail
      go_meet
      exact ⟨_, tg, rfl, rfl, Lib.hid HFin.out⟩
  case rest =>
    obtain ⟨PA, tg, rfl, rfl, H7⟩ := hcut
    clear HH hS0 cP cR HPK H6
    generalize wc = w7 at *
    have H8 : Hid (St w.heap.size w w7 (brd Bp T kt sv tb L' es (slI 4 tg (tagv (carryM t1).tags) :: bk PA 58 ((carryM t1).vals tg) :: brd Cp U kt sw tc L2 es []))) := Lib.hid (((H7.out.sub (A' := slI 4 tg (tagv (carryM t1).tags) :: bk PA 58 ((carryM t1).vals tg) :: brd Cp U kt sw tc L2 es (brd Bp T kt sv tb L' es [])) (((List.sublist_cons_self _ _).cons_cons _).cons_cons _)).perm (List.perm_append_comm (l₁ := slI 4 tg (tagv (carryM t1).tags) :: bk PA 58 ((carryM t1).vals tg) :: brd Cp U kt sw tc L2 es []) (l₂ := brd Bp T kt sv tb L' es []))))
    clear H7
    have HLl : Hid (L'.length = n) := Lib.hid (by
      have := congrArg List.length HL.out
      rwa [List.length_map, List.length_map, Hn.out] at this)
    have HLl2 : Hid (L2.length = n) := Lib.hid (by
      have := congrArg List.length HL2.out
      rwa [List.length_map, List.length_map, Hn.out] at this)
    have Hgo := Lib.hid (good_ok HL.out HGood.out.1)
    have Hgo2 := Lib.hid (good_ok HL2.out HGood.out.1)
    generalize hpt : pickN t1.port n = pt at *
    clear hpt
    have hptL : pt < L'.length := by rw [HLl.out]; exact hpk
    have hptL2 : pt < L2.length := by rw [HLl2.out]; exact hpk
    have hptL0 : pt < L.length := by rw [Hn.out]; exact hpk
    have Hpp : Hid (L'[pt].p = L[pt].p) := Lib.hid (at_same HL.out hptL0 hptL)
    have Hpp2 : Hid (L2[pt].p = L[pt].p) := Lib.hid (at_same HL2.out hptL0 hptL2)
    have HVid : Hid (∀ X, St w.heap.size w X (brd Bp T kt sv tb L' es (slI 4 tg (tagv (carryM t1).tags) :: bk PA 58 ((carryM t1).vals tg) :: brd Cp U kt sw tc L2 es [])) → Calls Try.prog 32 #[.pointer (some ⟨Bp, 0, none⟩), .int .i64 (pt : Int), .agg ((carryM t1).vals tg).toArray] X fun e w' => e = .returned (.int .i64 (vidM L[pt].p (carryM t1).tags)) ∧ Below X.heap.size X w') := Lib.hid fun X hX => by
      have h := vid_any pt hptL (carryM t1) tg X hX.ports (hX.slOf 5 rfl) (by rw [HLl.out]; omega) (by have := (Hgo.out.2.1 _ (List.getElem_mem hptL)).few; omega)
      rw [Hpp.out] at h
      exact h
    have E2 : ∀ (W : World), (binOp .eql 30 (.agg (carryM t1).src.vals.toArray) (.agg (carryM t1).dst.vals.toArray)).run Try.prog W = .ok (.bool (decide ((carryM t1).src = (carryM t1).dst))) W := fun W => ad_eq _ _ W
    have G2 : ∀ (x y : Operand) (W : World), (eqGuard .eql 30 x y (.agg (carryM t1).src.vals.toArray) (.agg (carryM t1).dst.vals.toArray)).run Try.prog W = .ok () W := fun x y W => ad_guard .eql _ _ x y W
    have Hfl := Lib.hid (fun hv hs hl => floods_law (L.map PRow.p) (L[pt]'hptL0).p t1 { t1 with many := true } Hm.out rfl (pt := pt) Hko.out hv hs hl)
    generalize hvid : vidM L[pt].p (carryM t1).tags = vid at *
    clear hvid
    by_cases hv : vid = 0
    · subst hv
      go_wp2_with (first
        | ((with_reducible refine wpList_load_box (ty := 58) (b := ?b25) (ds := ?ds25) ((carryM t1).vals tg) ?hx25 ?hB25 ?hu25 ?hd25 ?hi25 ?hk25)
           case hx25 => rfl
           case hB25 => exact (Blk.box (H8.out.at 6 rfl))
           case hu25 => exact Try.underlying58
           case hd25 => rfl
           case hi25 => exact info58)
        | ((with_reducible refine (HVid.out _ H8.out).mono ?_)
           rintro e w9 ⟨rfl, hb9⟩
           have H9 := Lib.hid (H8.out.ext hb9)
           clear hb9 H8 HVid)
        )
      go_ret
      exact ⟨rfl, H9.out.below⟩
    have hv0 : (vid == 0) = false := beq_eq_false_iff_ne.2 hv
    have Hv := Lib.hid hv
    clear hv
    go_upto_region 12 with (first
      | ((with_reducible refine wpList_load_box (ty := 58) (b := ?b27) (ds := ?ds27) ((carryM t1).vals tg) ?hx27 ?hB27 ?hu27 ?hd27 ?hi27 ?hk27)
         case hx27 => rfl
         case hB27 => exact (Blk.box (H8.out.at 6 rfl))
         case hu27 => exact Try.underlying58
         case hd27 => rfl
         case hi27 => exact info58)
      | ((with_reducible refine (HVid.out _ H8.out).mono ?_)
         rintro e w9 ⟨rfl, hb9⟩
         have H9 := Lib.hid (H8.out.ext hb9)
         clear hb9 H8 HVid)
      )
    have HSr := Lib.hid (fm_src (H9.out.at 6 rfl : Blk w9 PA 58 ((carryM t1).vals tg)).box)
    have HDs := Lib.hid (fm_dst (H9.out.at 6 rfl : Blk w9 PA 58 ((carryM t1).vals tg)).box)
    by_cases hsd : (carryM t1).src = (carryM t1).dst
    · have hd : decide ((carryM t1).src = (carryM t1).dst) = true := decide_eq_true hsd
      rw [hd] at E2
      clear hsd hd
      go_wp2_with (first
        | ((with_reducible refine wpList_load_rngG (ty := 30) (b := ?b29) (o := ?o29) (ds := ?ds29) (carryM t1).src.vals ?hg29 ?hx29 ?hB29 ?hu29 ?hd29 ?hi29 ?hk29)
           case hg29 => rfl
           case hx29 => rfl
           case hB29 => exact HSr.out
           case hu29 => exact Try.underlying30
           case hd29 => rfl
           case hi29 => exact info30)
        | ((with_reducible refine wpList_load_rngG (ty := 30) (b := ?b30) (o := ?o30) (ds := ?ds30) (carryM t1).dst.vals ?hg30 ?hx30 ?hB30 ?hu30 ?hd30 ?hi30 ?hk30)
           case hg30 => rfl
           case hx30 => rfl
           case hB30 => exact HDs.out
           case hu30 => exact Try.underlying30
           case hd30 => rfl
           case hi30 => exact info30)
        )
      go_ret
      exact ⟨rfl, H9.out.below⟩
    have hd : decide ((carryM t1).src = (carryM t1).dst) = false := decide_eq_false hsd
    rw [hd] at E2
    have Hsd := Lib.hid hsd
    clear hsd hd
    have HWh : Hid (∀ X, St w.heap.size w X (brd Bp T kt sv tb L' es (slI 4 tg (tagv (carryM t1).tags) :: bk PA 58 ((carryM t1).vals tg) :: brd Cp U kt sw tc L2 es [])) → Calls Try.prog 28 #[.pointer (some ⟨Bp, 0, none⟩), .int .i64 vid, .agg (carryM t1).dst.vals.toArray, .int .i64 now] X fun e w' => e = .returned (.int .i64 (lookM es vid (carryM t1).dst now 100)) ∧ Below X.heap.size X w') := Lib.hid fun X hX => where_brd hX Hko.out.1 vid (carryM t1).dst now (by have := Hko.out.2.2; simp only at this; omega) hnow0 (by omega)
    generalize hlk : lookM es vid (carryM t1).dst now 100 = lk at *
    by_cases hl : 0 ≤ lk
    · clear hlk Hfl
      go_wp2_with (first
        | ((with_reducible refine wpList_load_rngG (ty := 30) (b := ?b31) (o := ?o31) (ds := ?ds31) (carryM t1).src.vals ?hg31 ?hx31 ?hB31 ?hu31 ?hd31 ?hi31 ?hk31)
           case hg31 => rfl
           case hx31 => rfl
           case hB31 => exact HSr.out
           case hu31 => exact Try.underlying30
           case hd31 => rfl
           case hi31 => exact info30)
        | ((with_reducible refine wpList_load_rngG (ty := 30) (b := ?b32) (o := ?o32) (ds := ?ds32) (carryM t1).dst.vals ?hg32 ?hx32 ?hB32 ?hu32 ?hd32 ?hi32 ?hk32)
           case hg32 => rfl
           case hx32 => rfl
           case hB32 => exact HDs.out
           case hu32 => exact Try.underlying30
           case hd32 => rfl
           case hi32 => exact info30)
        | ((with_reducible refine wpList_load_rngG (ty := 30) (b := ?b33) (o := ?o33) (ds := ?ds33) (carryM t1).dst.vals ?hg33 ?hx33 ?hB33 ?hu33 ?hd33 ?hi33 ?hk33)
           case hg33 => rfl
           case hx33 => rfl
           case hB33 => exact HDs.out
           case hu33 => exact Try.underlying30
           case hd33 => rfl
           case hi33 => exact info30)
        | ((with_reducible refine (HWh.out _ H9.out).mono ?_)
           rintro e w10 ⟨rfl, hb10⟩
           have H10 := Lib.hid (H9.out.ext hb10)
           clear hb10 H9 HWh)
        )
      go_ret
      exact ⟨rfl, H10.out.below⟩
    obtain ⟨x2, hx2⟩ : ∃ x2 : Trp, x2 = { t1 with many := true } := ⟨_, rfl⟩
    have Hlaw := Lib.hid (Hfl.out Hv.out Hsd.out (by omega))
    rw [← hx2] at Hlaw
    have Hset := Lib.hid (many_set t1 x2 Hm.out hx2 tg)
    have H2 := Lib.hid (many_two t1 Hm.out)
    have Htg2 : Hid ((carryM x2).tags = (carryM t1).tags) := Lib.hid (by subst hx2; rfl)
    clear hlk Hfl hx2
    go_upto_region 14 with (first
      | ((with_reducible refine wpList_load_rngG (ty := 30) (b := ?b35) (o := ?o35) (ds := ?ds35) (carryM t1).src.vals ?hg35 ?hx35 ?hB35 ?hu35 ?hd35 ?hi35 ?hk35)
         case hg35 => rfl
         case hx35 => rfl
         case hB35 => exact HSr.out
         case hu35 => exact Try.underlying30
         case hd35 => rfl
         case hi35 => exact info30)
      | ((with_reducible refine wpList_load_rngG (ty := 30) (b := ?b36) (o := ?o36) (ds := ?ds36) (carryM t1).dst.vals ?hg36 ?hx36 ?hB36 ?hu36 ?hd36 ?hi36 ?hk36)
         case hg36 => rfl
         case hx36 => rfl
         case hB36 => exact HDs.out
         case hu36 => exact Try.underlying30
         case hd36 => rfl
         case hi36 => exact info30)
      | ((with_reducible refine wpList_load_rngG (ty := 30) (b := ?b37) (o := ?o37) (ds := ?ds37) (carryM t1).dst.vals ?hg37 ?hx37 ?hB37 ?hu37 ?hd37 ?hi37 ?hk37)
         case hg37 => rfl
         case hx37 => rfl
         case hB37 => exact HDs.out
         case hu37 => exact Try.underlying30
         case hd37 => rfl
         case hi37 => exact info30)
      | ((with_reducible refine (HWh.out _ H9.out).mono ?_)
         rintro e w10 ⟨rfl, hb10⟩
         have H10 := Lib.hid (H9.out.ext hb10)
         clear hb10 H9 HWh)
      )
    clear E2 G2 HSr HDs
    have hone := slat_one' (H10.out.slOf 5 rfl : SlAt w10 4 tg (tagv (carryM t1).tags))
    go_upto_region 15 with (first
      | ((with_reducible refine wpList_load_box (ty := 58) (b := ?b39) (ds := ?ds39) ((carryM t1).vals tg) ?hx39 ?hB39 ?hu39 ?hd39 ?hi39 ?hk39)
         case hx39 => rfl
         case hB39 => exact (Blk.box (H10.out.at 6 rfl))
         case hu39 => exact Try.underlying58
         case hd39 => rfl
         case hi39 => exact info58)
      | ((with_reducible refine wpList_store_blk (ty := 58) (b := ?b40) (o := ?o40) (t := 58) zFm ((carryM t1).vals tg) ?hx40 ?hy40 ?hB40 ?ho40 ?hi40 ?h140 ?hk40)
         case hx40 => rfl
         case hy40 => rfl
         case hB40 => exact Blk.new w10 zFm 58
         case ho40 => exact Nat.le_refl _
         case hi40 => exact info58
         case h140 => exact (Fm.one _ hone)
         intro W11 hBW11 hoW11))
    obtain ⟨hb11, lPG⟩ := Only.fresh hoW11
    have h11 := H10.out.add (k := bk w10.heap.size 58 ((carryM t1).vals tg)) hb11 hBW11 (fun g hg => by rw [List.mem_singleton.1 hg]; exact Nat.le_refl _)
    generalize w10.heap.size = PG at *
    have H11 := Lib.hid h11
    clear h11 hBW11 hoW11 hb11 lPG H10
    have g0 : W11.cell? ⟨PG, 0, none⟩ = some (.int .u8 2) := by
      have h := ((H11.out.at 0 rfl : Blk W11 PG 58 ((carryM t1).vals tg)).box).cell 0
      have e : (((carryM t1).vals tg)[0]?).getD default = .int .u8 ((carryM t1).dst.a.toNat : Int) := rfl
      first
        | (rw [← H2.out]; exact h)
        | (rw [e, H2.out] at h; exact h)
    have f0 : W11.frozen? ⟨PG, 0, none⟩ = false := ((H11.out.at 0 rfl : Blk W11 PG 58 ((carryM t1).vals tg)).box).frozen 0
    go_upto_region 16 with (fail)
    rw [show bits BinOp.or IntKind.u8 2 1 = 3 from by decide]
    have h12 := H11.out.set 0 (.int .u8 3) (by rw [Fm.len]; decide)
    rw [Hset.out] at h12
    have H12 : Hid (St w.heap.size w (W11.setCell ⟨PG, 0, none⟩ (.int .u8 3)) (brd Bp T kt sv tb L' es (slI 4 tg (tagv (carryM t1).tags) :: bk PA 58 ((carryM t1).vals tg) :: bk PG 58 ((carryM x2).vals tg) :: brd Cp U kt sw tc L2 es []))) := Lib.hid (h12.perm ((List.perm_append_comm (l₁ := [bk PG 58 ((carryM x2).vals tg)]) (l₂ := brd Bp T kt sv tb L' es (slI 4 tg (tagv (carryM t1).tags) :: bk PA 58 ((carryM t1).vals tg) :: []))).append_right (brd Cp U kt sw tc L2 es [])))
    clear h12 H11 g0 f0
    generalize World.setCell _ _ _ = w12 at *
    have HIn1 : Hid (∀ X, St w.heap.size w X (brd Bp T kt sv tb L' es (slI 4 tg (tagv (carryM t1).tags) :: bk PA 58 ((carryM t1).vals tg) :: bk PG 58 ((carryM x2).vals tg) :: brd Cp U kt sw tc L2 es [])) → Calls Try.prog 33 #[.pointer (some ⟨Bp, 0, none⟩), .int .i64 (pt : Int), .agg ((carryM t1).vals tg).toArray, .int .i64 now] X fun e w' => ∃ (ov : Value) (R : List SRow), e = .returned (.tuple #[ov, .nilIface]) ∧ R.map (·.i) = (inM (L.map PRow.p) L[pt].p pt (carryM t1) now (tabM L[pt].p pt (carryM t1) now (es, kt)).1).map (·.1) ∧ St w.heap.size w w' (brd Cp U kt sw tc L2 es (slI 4 tg (tagv (carryM t1).tags) :: ownI 65 22 ov R.length (srows R) :: tagsI R :: bk PA 58 ((carryM t1).vals tg) :: bk PG 58 ((carryM x2).vals tg) :: []))) := Lib.hid fun X hX => by
      refine (in_st hX pt hptL (by rw [HLl.out]; omega) Hgo.out.2.1 Hko.out.1 Hko.out.2.1 now Hko.out.2.2 (by omega) (carry_ok t1) Hgo.out.2.2).mono ?_
      rintro e w' ⟨ov, R, tb', rfl, hR, hs⟩
      rw [Hpp.out] at hR
      have hR2 := congrArg (List.map (·.1)) hR
      rw [List.map_map] at hR2
      refine ⟨ov, R, rfl, ?_, ?_⟩
      · rw [← HL.out]; exact hR2
      · exact ((brd_skip hs).pull 2 rfl).perm (List.perm_append_comm (l₁ := slI 4 tg (tagv (carryM t1).tags) :: ownI 65 22 ov R.length (srows R) :: tagsI R :: bk PA 58 ((carryM t1).vals tg) :: bk PG 58 ((carryM x2).vals tg) :: []) (l₂ := brd Cp U kt sw tc L2 es []))
    have HIn2 : Hid (∀ X ov1 R1, St w.heap.size w X (brd Cp U kt sw tc L2 es (slI 4 tg (tagv (carryM t1).tags) :: ownI 65 22 ov1 R1.length (srows R1) :: tagsI R1 :: bk PA 58 ((carryM t1).vals tg) :: bk PG 58 ((carryM x2).vals tg) :: [])) → Calls Try.prog 33 #[.pointer (some ⟨Cp, 0, none⟩), .int .i64 (pt : Int), .agg ((carryM x2).vals tg).toArray, .int .i64 now] X fun e w' => ∃ (ov : Value) (R : List SRow), e = .returned (.tuple #[ov, .nilIface]) ∧ R.map (·.i) = (inM (L.map PRow.p) L[pt].p pt (carryM t1) now (tabM L[pt].p pt (carryM t1) now (es, kt)).1).map (·.1) ∧ St w.heap.size w w' (ownI 65 22 ov R.length (srows R) :: ownI 65 22 ov1 R1.length (srows R1) :: [])) := Lib.hid fun X ov1 R1 hX => by
      rw [← Htg2.out] at hX
      refine (in_st hX pt hptL2 (by rw [HLl2.out]; omega) Hgo2.out.2.1 Hko.out.1 Hko.out.2.1 now Hko.out.2.2 (by omega) (carry_ok x2) Hgo2.out.2.2).mono ?_
      rintro e w' ⟨ov, R, tb', rfl, hR, hs⟩
      rw [Hpp2.out] at hR
      have hR2 := congrArg (List.map (·.1)) hR
      rw [List.map_map] at hR2
      refine ⟨ov, R, rfl, ?_, ?_⟩
      · rw [← Hlaw.out, ← HL2.out]; exact hR2
      · exact (((brd_skip hs).pull 3 rfl).swap).sub (by simp)
    generalize hM : (inM (L.map PRow.p) L[pt].p pt (carryM t1) now (tabM L[pt].p pt (carryM t1) now (es, kt)).1).map (·.1) = M at *
    have hM8 : M.length ≤ 8 := by
      rw [← hM, List.length_map]
      unfold inM
      split
      · refine Nat.le_trans (outFrom_len ..) ?_
        rw [List.length_map, Hn.out]; exact hn8
      · simp
    clear hM Hlaw HL HL2 Hgo Hgo2 Hpp Hpp2 Hset
    go_upto_region 17 with (first
      | ((with_reducible refine wpList_load_box (ty := 58) (b := ?b41) (ds := ?ds41) ((carryM t1).vals tg) ?hx41 ?hB41 ?hu41 ?hd41 ?hi41 ?hk41)
         case hx41 => rfl
         case hB41 => exact (Blk.box (H12.out.at 6 rfl))
         case hu41 => exact Try.underlying58
         case hd41 => rfl
         case hi41 => exact info58)
      | ((with_reducible refine (HIn1.out _ H12.out).mono ?_)
         rintro e w13 ⟨ov1, R1, rfl, hR1, h13⟩
         have HR1 := Lib.hid hR1
         have H13 := Lib.hid h13
         clear hR1 h13 H12 HIn1)
      )
    go_upto_region 18 with (first
      | ((with_reducible refine wpList_load_box (ty := 58) (b := ?b43) (ds := ?ds43) ((carryM x2).vals tg) ?hx43 ?hB43 ?hu43 ?hd43 ?hi43 ?hk43)
         case hx43 => rfl
         case hB43 => exact (Blk.box (H13.out.at 9 rfl))
         case hu43 => exact Try.underlying58
         case hd43 => rfl
         case hi43 => exact info58)
      | ((with_reducible refine (HIn2.out _ _ _ H13.out).mono ?_)
         rintro e w14 ⟨ov2, R2, rfl, hR2, h14⟩
         have HR2 := Lib.hid hR2
         have H14 := Lib.hid h14
         clear hR2 h14 H13 HIn2)
      )
    obtain ⟨Ao, co, eo, hro⟩ := out_rows (H14.out.tail.head : World.ownsRow w14 0 65 22 ov1 R1.length (srows R1))
    obtain ⟨Ap, cp, ep, hrp⟩ := out_rows (H14.out.head : World.ownsRow w14 0 65 22 ov2 R2.length (srows R2))
    have Hro := Lib.hid hro
    have Hrp := Lib.hid hrp
    have HB14 := Lib.hid H14.out.below
    have Hl1 : Hid (R1.length = M.length) := Lib.hid (by rw [← HR1.out, List.length_map])
    have Hl2 : Hid (R2.length = M.length) := Lib.hid (by rw [← HR2.out, List.length_map])
    clear hro hrp H14
    rw [Hl1.out] at eo
    rw [Hl2.out] at ep
    subst eo
    subst ep
    obtain ⟨m, hm⟩ : ∃ m, M.length = m := ⟨_, rfl⟩
    have HMm := Lib.hid hm
    rw [hm] at hM8 ⊢
    clear hm
    go_upto_region 20 with (fail)
    go_wp2_with fail
    go_loopw [19, 116] (fun _ i wr => ∃ (k : Nat), k ≤ m ∧ i = .int .i64 k ∧ Hid (Below w14.heap.size w14 wr)) (fun _ i _ => m - (intOf i).toNat)
    case atStart => exact ⟨0, by omega, rfl, Lib.hid (Below.refl _ _)⟩
    case round =>
      obtain ⟨k, hk, rfl, HB⟩ := hrel
      by_cases hlk : k < m
      · have hk1 : k < R1.length := by rw [Hl1.out, HMm.out]; exact hlk
        have hk2 : k < R2.length := by rw [Hl2.out, HMm.out]; exact hlk
        have hkM : k < M.length := by rw [HMm.out]; exact hlk
        obtain ⟨g1, rfl, lg1, hr1⟩ := Hro.out (by omega)
        obtain ⟨g2, rfl, lg2, hr2⟩ := Hrp.out (by omega)
        have d1 : wr.cell? ⟨g1, k * 22, none⟩ = some (.int .i64 (R1[k].i : Int)) := rangeAt_below (hr1 k hk1) HB.out lg1 0 _ rfl
        have d2 : wr.cell? ⟨g2, k * 22, none⟩ = some (.int .i64 (R2[k].i : Int)) := rangeAt_below (hr2 k hk2) HB.out lg2 0 _ rfl
        rw [row_at HR1.out hk1 hkM] at d1
        rw [row_at HR2.out hk2 hkM] at d2
        clear hr1 hr2
        generalize M[k] = pp at *
        have l1 := Nat.lt_of_lt_of_le lg1 HB.out.size
        have l2 := Nat.lt_of_lt_of_le lg2 HB.out.size
        clear lg1 lg2
        go_upto_region 23 with (fail)
        refine wp_region_ext (by kernel_rfl) (by kernel_rfl) ?_
        repeat (go_big_quiet_step (fail))
        refine wpQuiet_nil ?_
        rintro w15 ⟨⟨_, hb15⟩, rfl⟩
        try simp only [] at *
        have HB2 := Lib.hid (HB.out.trans (hb15.mono HB.out.size))
        clear hb15 d1 d2 l1 l2
        go_wp2_with fail
        go_roundw
        case rel => exact ⟨k + 1, by omega, by go_num, HB2⟩
        case measure => simp [intOf]; omega
      · have : k = m := by omega
        subst this
        go_wp2_with fail
        go_ret
        exact ⟨rfl, HB14.out.trans (HB.out.mono HB14.out.size)⟩
end Go.Proofs.Ytoenlcmngdpkmaa

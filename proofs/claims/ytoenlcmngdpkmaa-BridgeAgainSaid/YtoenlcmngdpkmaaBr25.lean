/- The law of BridgeAgain. -/
import Derived.Test.YtoenlcmngdpkmaaBr24
import Derived.Test.YtoenlcmngdpkmaaBr18
namespace Go.Proofs.Ytoenlcmngdpkmaa
open Go.RowKit Go.ChangeShapes Go.WideShapes Go.Deep
theorem trS_ag {B PT : Nat} {w0 w : World} {A : List It} {x : Trp} (H : St B w0 w A) (h : bk PT 52 x.vals ∈ A) : TrS PT x.vals w := trS (H.own _ h)
theorem brd_off {B : Nat} {w0 w : World} {A : List It} {Bp T : Nat} {now : Int} {sv tv : Value} {L : List PRow} {es : List Ent} {x y : It} (H : St B w0 w (x :: y :: brd Bp T now sv tv L es A)) : St B w0 w (x :: y :: A) :=
  H.sub (show List.Sublist (x :: y :: A) (x :: y :: (brd Bp T now sv tv L es [] ++ A)) from ((List.sublist_append_right _ _).cons_cons _).cons_cons _)
theorem tab_twice (p : PSet) (pt : Nat) (f : Fm) (t : Int) (es : List Ent) (kt : Int) (hl : es.length ≤ 32) : tabM p pt f t (tabM p pt f t (es, kt)) = tabM p pt f t (es, kt) := by
  unfold tabM
  split
  · simp only [learn_twice hl]
  · rfl
theorem leave_few (f : Fm) (vid : Int) (b : Bool) : (leaveM f vid b).tags.length ≤ 1 := by
  unfold leaveM
  cases b <;> simp
set_option maxRecDepth 100000 in
set_option maxHeartbeats 16000000 in
theorem law_BridgeAgain (v0 : Value) (L : List PRow) (v1 : Value) (X : List Trp) (v2 : Value) (t : Trp) (w : World) (hv0 : IsPorts w v0 L) (hv1 : IsTrips w v1 X) (hv2 : IsTrip w v2 t) :
    Calls Try.prog 13 #[v0, v1, v2] w fun e w' => e = .returned (.bool true) ∧ Below w.heap.size w w' := by
  unfold IsTrip at hv2
  subst hv2
  obtain ⟨hs0, hin0, hlen0, hsub0⟩ := hv0
  obtain ⟨hs1, hlen1⟩ := hv1
  obtain ⟨A0, k0, e0, _, _⟩ := hs0.row
  obtain ⟨A1, k1, e1, _, _⟩ := hs1.row
  rw [List.length_map] at e0 e1
  have HSets : Hid (∀ W, Below w.heap.size w W → Calls Try.prog 29 #[v0] W fun e w' => e = .returned (.bool (setsM (L.map PRow.p))) ∧ Below W.heap.size W w') := Lib.hid fun W hW => sets_any L v0 W ⟨hs0.below hW, fun q hq => (hin0 q hq).below hW, hlen0, hsub0⟩
  have HSv : Hid (∀ W, Below w.heap.size w W → setsM (L.map PRow.p) = true → X.length ≤ 60 → Calls Try.prog 30 #[v0, v1] W (Served W (L.map PRow.p) X)) := Lib.hid fun W hW hg h60 => served_any L v0 W (hs0.below hW) (fun q hq => (hin0 q hq).below hW) (sets_good hg).1 (by have := (sets_good hg).2; rwa [List.length_map] at this) X v1 (hs1.below hW) h60
  have H1 := Lib.hid ((St.init w).alloc t.vals 52)
  clear hs0 hs1 hin0 hsub0
  subst e0
  subst e1
  go_enter Try.func13, Try.ntmps13
  go_upto_region 1 with (fail)
  generalize w.alloc (.cells t.vals.toArray 52) = W1 at *
  cases hg : setsM (L.map PRow.p)
  · rw [hg] at HSets
    clear hg
    go_wp2_with (first
      | ((with_reducible refine (passes_any _).mono ?_)
         rintro e w2 ⟨rfl, hb2⟩
         have H2 := Lib.hid (H1.out.ext hb2)
         clear hb2)
      | ((with_reducible refine (HSets.out _ H2.out.below).mono ?_)
         rintro e w3 ⟨rfl, hb3⟩
         have H3 := Lib.hid (H2.out.ext hb3)
         clear hb3)
      )
    go_ret
    exact ⟨rfl, H3.out.below⟩
  by_cases h60 : 60 < X.length
  · rw [hg] at HSets
    clear hg
    go_wp2_with (first
      | ((with_reducible refine (passes_any _).mono ?_)
         rintro e w2 ⟨rfl, hb2⟩
         have H2 := Lib.hid (H1.out.ext hb2)
         clear hb2)
      | ((with_reducible refine (HSets.out _ H2.out.below).mono ?_)
         rintro e w3 ⟨rfl, hb3⟩
         have H3 := Lib.hid (H2.out.ext hb3)
         clear hb3)
      )
    go_ret
    exact ⟨rfl, H3.out.below⟩
  have HGood := Lib.hid (sets_good hg)
  have HSv2 : Hid (∀ W, Below w.heap.size w W → Calls Try.prog 30 #[.slice A0 L.length k0, .slice A1 X.length k1] W (Served W (L.map PRow.p) X)) := Lib.hid fun W hW => HSv.out W hW hg (by omega)
  rw [hg] at HSets
  have h60' : X.length ≤ 60 := by omega
  clear hg HSv
  have hn8 : L.length ≤ 8 ∧ 0 < L.length := by
    have h1 := (good_ok rfl HGood.out.1).1
    have h2 := HGood.out.2
    rw [List.length_map] at h2
    exact ⟨h1, h2⟩
  unfold Served at HSv2
  have hkn := served_ok (L.map PRow.p) (by rw [List.length_map]; exact hn8.1) (by rw [List.length_map]; exact hn8.2) X ([], 0) 0 (by omega) KnowOk.nil
  generalize (servedM (L.map PRow.p) ([], 0) 0 X).2 = now at *
  generalize hes : (servedM (L.map PRow.p) ([], 0) 0 X).1 = KN at *
  clear hes
  obtain ⟨es, kt⟩ := KN
  try simp only [] at hkn
  obtain ⟨hko, hnow0, hnow1⟩ := hkn
  have hnow : now ≤ 1140 := by omega
  have Hko := Lib.hid hko
  obtain ⟨n, hn⟩ : ∃ n, L.length = n := ⟨_, rfl⟩
  have Hn := Lib.hid hn
  rw [hn] at HSets HSv2 hn8 ⊢
  obtain ⟨hn8, hn0⟩ := hn8
  clear hko hn hnow1
  go_upto_region 8 with (first
    | ((with_reducible refine (passes_any _).mono ?_)
       rintro e w2 ⟨rfl, hb2⟩
       have H2 := Lib.hid (H1.out.ext hb2)
       clear hb2 H1)
    | ((with_reducible refine (HSets.out _ H2.out.below).mono ?_)
       rintro e w3 ⟨rfl, hb3⟩
       have H3 := Lib.hid (H2.out.ext hb3)
       clear hb3 H2)
    | ((with_reducible refine (HSv2.out _ H3.out.below).mono ?_)
       rintro e w4 ⟨Bp, T, sv, tb, L', rfl, hL', h4⟩
       have H4 := Lib.hid (H3.out.app h4)
       have HL := Lib.hid hL'
       clear h4 hL' H3)
    )
  clear HSv2 HSets
  have HH : Hid (St w.heap.size w w4.drew (bk w.heap.size 52 t.vals :: brd Bp T kt sv tb L' es [])) := Lib.hid ((H4.out.pull 5 rfl).drew)
  clear H4
  have hS0 := trS_ag HH.out (List.mem_of_getElem? (i := 0) rfl)
  have cP : ∀ X, TrS w.heap.size t.vals X → X.cell? ⟨w.heap.size, 0, none⟩ = some (.int .i64 t.port) := fun X h => h.p
  have cR : Hid (∀ X, TrS w.heap.size t.vals X → X.rangeAt w.heap.size 0 t.vals) := Lib.hid fun X h => h.r
  have hpk := pickN_lt t.port n hn0
  have HPK := pick_hid' t.port n (by omega) (by omega)
  go_cut [9, 10] (fun p q wx => ∃ PA tg, p = .pointer (some ⟨PA, 0, none⟩) ∧ q = .int .i64 (pickN t.port n : Nat) ∧ Hid (St w.heap.size w wx (slI 4 tg (tagv (carryM t).tags) :: bk PA 58 ((carryM t).vals tg) :: bk w.heap.size 52 t.vals :: brd Bp T kt sv tb L' es [])))
  case first =>
    refine wp_region_last (TrS w.heap.size t.vals) 9 (by kernel_rfl) hS0 (fun hHeld => ?_)
    refine wpAnyG_take 2 (oi := ?o9) ?v9 ?hi9 (by kernel_rfl) (by kernel_rfl) (by decide) (by kernel_rfl) (by kernel_rfl) ?hq9 ?hg9 ?hy9 (by assumption) ?hk9
    case hi9 => (simp only [List.getElem?_toArray, List.getElem?_cons_succ, List.getElem?_cons_zero]; rfl)
    case hq9 => exact fun _ _ _ h => h
    case hg9 => rfl
    case hy9 => (intro X hX; go_simp; try with_reducible rfl)
    try simp only [Act.put, List.setIfInBounds_toArray, List.set_cons_zero, List.set_cons_succ]
    refine wpAnyG_take 3 (oi := ?o10) ?v10 ?hi10 (by kernel_rfl) (by kernel_rfl) (by decide) (by kernel_rfl) (by kernel_rfl) ?hq10 ?hg10 ?hy10 (by assumption) ?hk10
    case hi10 => (simp only [List.getElem?_toArray, List.getElem?_cons_succ, List.getElem?_cons_zero]; rfl)
    case hq10 => exact fun _ _ _ h => h
    case hg10 => rfl
    case hy10 => (intro X hX; go_simp; try with_reducible rfl)
    try simp only [Act.put, List.setIfInBounds_toArray, List.set_cons_zero, List.set_cons_succ]
    refine wpAnyG_take 4 (oi := ?o11) ?v11 ?hi11 (by kernel_rfl) (by kernel_rfl) (by decide) (by kernel_rfl) (by kernel_rfl) ?hq11 ?hg11 ?hy11 (by assumption) ?hk11
    case hi11 => (simp only [List.getElem?_toArray, List.getElem?_cons_succ, List.getElem?_cons_zero]; rfl)
    case hq11 => exact fun _ _ _ h => h
    case hg11 => rfl
    case hy11 => (intro X hX; go_simp; try with_reducible rfl)
    try simp only [Act.put, List.setIfInBounds_toArray, List.set_cons_zero, List.set_cons_succ]
    refine wpAnyG_take 5 (oi := ?o12) ?v12 ?hi12 (by kernel_rfl) (by kernel_rfl) (by decide) (by kernel_rfl) (by kernel_rfl) ?hq12 ?hg12 ?hy12 (by assumption) ?hk12
    case hi12 => (simp only [List.getElem?_toArray, List.getElem?_cons_succ, List.getElem?_cons_zero]; rfl)
    case hq12 => exact fun _ _ _ h => h
    case hg12 => rfl
    case hy12 => (intro X hX; go_simp; try with_reducible rfl)
    try simp only [Act.put, List.setIfInBounds_toArray, List.set_cons_zero, List.set_cons_succ]
    refine wpAnyG_take 0 (oi := ?o13) (.agg (t.vals).toArray) ?hi13 (by kernel_rfl) (by kernel_rfl) (by decide) (by kernel_rfl) (by kernel_rfl) ?hq13 ?hg13 ?hy13 (by assumption) ?hk13
    case hi13 => (simp only [List.getElem?_toArray, List.getElem?_cons_succ, List.getElem?_cons_zero]; rfl)
    case hq13 => exact fun _ _ _ h => h
    case hg13 => rfl
    case hy13 => exact fun X hX => exec_load_rng (ty := 52) (t.vals) rfl (cR.out X hX) Try.underlying52 rfl info52
    try simp only [Act.put, List.setIfInBounds_toArray, List.set_cons_zero, List.set_cons_succ]
    refine wpAnyG_two 1 7 (o := ?oca) (u := ?uca) (by kernel_rfl) ?hica ?hjca ?hgca ?huca ?haca ?hbca
    case hica => (simp only [List.getElem?_toArray, List.getElem?_cons_succ, List.getElem?_cons_zero]; rfl)
    case hjca => (simp only [List.getElem?_toArray, List.getElem?_cons_succ, List.getElem?_cons_zero]; rfl)
    case hgca => rfl
    case huca => rfl
    case haca =>
      intro K hK
      go_simp
      refine (carried_any t _).mono ?_
      rintro e X1 ⟨tg, rfl, hc1⟩
      have hSx := trS_ag (HH.out.add (k := slI 4 tg (tagv (carryM t).tags)) hc1.below hc1.head (fun g hg => hc1.low _ (List.mem_cons_self ..) g hg)) (List.mem_of_getElem? (i := 1) rfl)
      refine hK.out _ _ (fun _ => hSx) (fun _ => ?_)
      have hHeld := hSx
      have HH := Lib.hid (HH.out.add (k := slI 4 tg (tagv (carryM t).tags)) hc1.below hc1.head (fun g hg => hc1.low _ (List.mem_cons_self ..) g hg))
      clear hK K hc1 hSx
      try simp only [Act.put, List.setIfInBounds_toArray, List.set_cons_zero, List.set_cons_succ]
      refine wpAnyG_two 6 7 (o := ?ocb) (u := ?ucb) (by kernel_rfl) ?hicb ?hjcb ?hgcb ?hucb ?hacb ?hbcb
      case hicb => (simp only [List.getElem?_toArray, List.getElem?_cons_succ, List.getElem?_cons_zero]; rfl)
      case hjcb => (simp only [List.getElem?_toArray, List.getElem?_cons_succ, List.getElem?_cons_zero]; rfl)
      case hgcb => rfl
      case hucb => rfl
      case hacb =>
        intro K hK
        go_simp
        refine (HPK.out _).mono ?_
        rintro e X1 ⟨rfl, rfl⟩
        refine hK.out _ _ (fun _ => hHeld) (fun _ => ?_)
        clear hK K
        try simp only [Act.put, List.setIfInBounds_toArray, List.set_cons_zero, List.set_cons_succ]
        refine wpAnyG_one 7 (o := ?o14) (by kernel_rfl) ?hi14 ?hg14 ?hk14
        case hi14 => (simp only [List.getElem?_toArray, List.getElem?_cons_succ, List.getElem?_cons_zero]; rfl)
        case hg14 => rfl
        intro K hK
        go_simp
        have hSx := trS_ag (HH.out.alloc zFm 58) (List.mem_of_getElem? (i := 2) rfl)
        refine hK.out _ _ (fun _ => hSx) (fun _ => ?_)
        have hHeld := hSx
        have HH := Lib.hid (HH.out.alloc zFm 58)
        clear hK K hSx
        try simp only [Act.put, List.setIfInBounds_toArray, List.set_cons_zero, List.set_cons_succ]
        have hone := slat_one' (HH.out.item (k := slI 4 tg (tagv (carryM t).tags)) (List.mem_of_getElem? (i := 1) rfl) : SlAt _ 4 tg _)
        refine wpAnyG_one 8 (o := ?o15) (by kernel_rfl) ?hi15 ?hg15 ?hk15
        case hi15 => (simp only [List.getElem?_toArray, List.getElem?_cons_succ, List.getElem?_cons_zero]; rfl)
        case hg15 => rfl
        intro K hK
        refine oper_store_blk (ty := 58) (o := 0) (t := 58) zFm ((carryM t).vals tg) (by rfl) (by rfl) (by exact HH.out.at 0 rfl) (by exact Nat.le_refl _) info58 (Fm.one _ hone) ?_
        intro W9 hB9 ho9
        have h9 := (HH.out.pull 0 rfl).sets hB9 ho9
        have hSx := trS_ag (h9) (List.mem_of_getElem? (i := 2) rfl)
        refine hK.out _ _ (fun _ => hSx) (fun _ => ?_)
        have hHeld := hSx
        have HH := Lib.hid h9
        clear hK K hSx h9 hB9 ho9
        try simp only [Act.put, List.setIfInBounds_toArray, List.set_cons_zero, List.set_cons_succ]
        refine wpAnyG_one 9 (o := ?o16) (by kernel_rfl) ?hi16 ?hg16 ?hk16
        case hi16 => (simp only [List.getElem?_toArray, List.getElem?_cons_succ, List.getElem?_cons_zero]; rfl)
        case hg16 => rfl
        intro K hK
        go_simp
        refine hK.out _ _ (fun h => absurd rfl h) (fun _ => ?_)
        refine wpAnyG_done (by kernel_rfl) ?_ _
        have hfin := HH.out.swap
        have HFin := Lib.hid hfin
        clear hK hHeld HH hfin
        go_wp2_with fail
        go_meet
        exact ⟨_, tg, rfl, rfl, Lib.hid HFin.out⟩
      case hbcb =>
        intro K hK
        go_simp
        have hSx := trS_ag (HH.out.alloc zFm 58) (List.mem_of_getElem? (i := 2) rfl)
        refine hK.out _ _ (fun _ => hSx) (fun _ => ?_)
        have hHeld := hSx
        have HH := Lib.hid (HH.out.alloc zFm 58)
        clear hK K hSx
        try simp only [Act.put, List.setIfInBounds_toArray, List.set_cons_zero, List.set_cons_succ]
        refine wpAnyG_one 6 (o := ?o17) (by kernel_rfl) ?hi17 ?hg17 ?hk17
        case hi17 => (simp only [List.getElem?_toArray, List.getElem?_cons_succ, List.getElem?_cons_zero]; rfl)
        case hg17 => rfl
        intro K hK
        go_simp
        refine (HPK.out _).mono ?_
        rintro e X1 ⟨rfl, rfl⟩
        refine hK.out _ _ (fun _ => hHeld) (fun _ => ?_)
        clear hK K
        try simp only [Act.put, List.setIfInBounds_toArray, List.set_cons_zero, List.set_cons_succ]
        have hone := slat_one' (HH.out.item (k := slI 4 tg (tagv (carryM t).tags)) (List.mem_of_getElem? (i := 1) rfl) : SlAt _ 4 tg _)
        refine wpAnyG_one 8 (o := ?o18) (by kernel_rfl) ?hi18 ?hg18 ?hk18
        case hi18 => (simp only [List.getElem?_toArray, List.getElem?_cons_succ, List.getElem?_cons_zero]; rfl)
        case hg18 => rfl
        intro K hK
        refine oper_store_blk (ty := 58) (o := 0) (t := 58) zFm ((carryM t).vals tg) (by rfl) (by rfl) (by exact HH.out.at 0 rfl) (by exact Nat.le_refl _) info58 (Fm.one _ hone) ?_
        intro W9 hB9 ho9
        have h9 := (HH.out.pull 0 rfl).sets hB9 ho9
        have hSx := trS_ag (h9) (List.mem_of_getElem? (i := 2) rfl)
        refine hK.out _ _ (fun _ => hSx) (fun _ => ?_)
        have hHeld := hSx
        have HH := Lib.hid h9
        clear hK K hSx h9 hB9 ho9
        try simp only [Act.put, List.setIfInBounds_toArray, List.set_cons_zero, List.set_cons_succ]
        refine wpAnyG_one 9 (o := ?o19) (by kernel_rfl) ?hi19 ?hg19 ?hk19
        case hi19 => (simp only [List.getElem?_toArray, List.getElem?_cons_succ, List.getElem?_cons_zero]; rfl)
        case hg19 => rfl
        intro K hK
        go_simp
        refine hK.out _ _ (fun h => absurd rfl h) (fun _ => ?_)
        refine wpAnyG_done (by kernel_rfl) ?_ _
        have hfin := HH.out.swap
        have HFin := Lib.hid hfin
        clear hK hHeld HH hfin
        go_wp2_with fail
        go_meet
        exact ⟨_, tg, rfl, rfl, Lib.hid HFin.out⟩
    case hbca =>
      intro K hK
      go_simp
      have hSx := trS_ag (HH.out.alloc zFm 58) (List.mem_of_getElem? (i := 1) rfl)
      refine hK.out _ _ (fun _ => hSx) (fun _ => ?_)
      have hHeld := hSx
      have HH := Lib.hid (HH.out.alloc zFm 58)
      clear hK K hSx
      try simp only [Act.put, List.setIfInBounds_toArray, List.set_cons_zero, List.set_cons_succ]
      refine wpAnyG_one 1 (o := ?o20) (by kernel_rfl) ?hi20 ?hg20 ?hk20
      case hi20 => (simp only [List.getElem?_toArray, List.getElem?_cons_succ, List.getElem?_cons_zero]; rfl)
      case hg20 => rfl
      intro K hK
      go_simp
      refine (carried_any t _).mono ?_
      rintro e X1 ⟨tg, rfl, hc1⟩
      have hSx := trS_ag (HH.out.add (k := slI 4 tg (tagv (carryM t).tags)) hc1.below hc1.head (fun g hg => hc1.low _ (List.mem_cons_self ..) g hg)) (List.mem_of_getElem? (i := 2) rfl)
      refine hK.out _ _ (fun _ => hSx) (fun _ => ?_)
      have hHeld := hSx
      have HH := Lib.hid (HH.out.add (k := slI 4 tg (tagv (carryM t).tags)) hc1.below hc1.head (fun g hg => hc1.low _ (List.mem_cons_self ..) g hg))
      clear hK K hc1 hSx
      try simp only [Act.put, List.setIfInBounds_toArray, List.set_cons_zero, List.set_cons_succ]
      refine wpAnyG_one 6 (o := ?o21) (by kernel_rfl) ?hi21 ?hg21 ?hk21
      case hi21 => (simp only [List.getElem?_toArray, List.getElem?_cons_succ, List.getElem?_cons_zero]; rfl)
      case hg21 => rfl
      intro K hK
      go_simp
      refine (HPK.out _).mono ?_
      rintro e X1 ⟨rfl, rfl⟩
      refine hK.out _ _ (fun _ => hHeld) (fun _ => ?_)
      clear hK K
      try simp only [Act.put, List.setIfInBounds_toArray, List.set_cons_zero, List.set_cons_succ]
      have hone := slat_one' (HH.out.item (k := slI 4 tg (tagv (carryM t).tags)) (List.mem_of_getElem? (i := 0) rfl) : SlAt _ 4 tg _)
      refine wpAnyG_one 8 (o := ?o22) (by kernel_rfl) ?hi22 ?hg22 ?hk22
      case hi22 => (simp only [List.getElem?_toArray, List.getElem?_cons_succ, List.getElem?_cons_zero]; rfl)
      case hg22 => rfl
      intro K hK
      refine oper_store_blk (ty := 58) (o := 0) (t := 58) zFm ((carryM t).vals tg) (by rfl) (by rfl) (by exact HH.out.at 1 rfl) (by exact Nat.le_refl _) info58 (Fm.one _ hone) ?_
      intro W9 hB9 ho9
      have h9 := (HH.out.pull 1 rfl).sets hB9 ho9
      have hSx := trS_ag (h9) (List.mem_of_getElem? (i := 2) rfl)
      refine hK.out _ _ (fun _ => hSx) (fun _ => ?_)
      have hHeld := hSx
      have HH := Lib.hid h9
      clear hK K hSx h9 hB9 ho9
      try simp only [Act.put, List.setIfInBounds_toArray, List.set_cons_zero, List.set_cons_succ]
      refine wpAnyG_one 9 (o := ?o23) (by kernel_rfl) ?hi23 ?hg23 ?hk23
      case hi23 => (simp only [List.getElem?_toArray, List.getElem?_cons_succ, List.getElem?_cons_zero]; rfl)
      case hg23 => rfl
      intro K hK
      go_simp
      refine hK.out _ _ (fun h => absurd rfl h) (fun _ => ?_)
      refine wpAnyG_done (by kernel_rfl) ?_ _
      have hfin := HH.out.swap
      have HFin := Lib.hid hfin
      clear hK hHeld HH hfin
      go_wp2_with fail
      go_meet
      exact ⟨_, tg, rfl, rfl, Lib.hid HFin.out⟩
  case rest =>
    obtain ⟨PA, tg, rfl, rfl, H7⟩ := hcut
    clear HH hS0 cP cR HPK
    generalize wc = w7 at *
    have H8 : Hid (St w.heap.size w w7 (brd Bp T kt sv tb L' es (slI 4 tg (tagv (carryM t).tags) :: bk PA 58 ((carryM t).vals tg) :: []))) := Lib.hid (((H7.out.sub (A' := slI 4 tg (tagv (carryM t).tags) :: bk PA 58 ((carryM t).vals tg) :: brd Bp T kt sv tb L' es []) (((List.sublist_cons_self _ _).cons_cons _).cons_cons _)).perm (List.perm_append_comm (l₁ := slI 4 tg (tagv (carryM t).tags) :: bk PA 58 ((carryM t).vals tg) :: []) (l₂ := brd Bp T kt sv tb L' es []))))
    clear H7
    have HLl : Hid (L'.length = n) := Lib.hid (by
      have := congrArg List.length HL.out
      rwa [List.length_map, List.length_map, Hn.out] at this)
    have Hgo := Lib.hid (good_ok HL.out HGood.out.1)
    generalize hpt : pickN t.port n = pt at *
    clear hpt
    have hptL : pt < L'.length := by rw [HLl.out]; exact hpk
    have hptL0 : pt < L.length := by rw [Hn.out]; exact hpk
    have Hpp : Hid (L'[pt].p = L[pt].p) := Lib.hid (at_same HL.out hptL0 hptL)
    have E2 : ∀ (W : World), (binOp .eql 30 (.agg (carryM t).src.vals.toArray) (.agg (carryM t).dst.vals.toArray)).run Try.prog W = .ok (.bool (decide ((carryM t).src = (carryM t).dst))) W := fun W => ad_eq _ _ W
    have G2 : ∀ (x y : Operand) (W : World), (eqGuard .eql 30 x y (.agg (carryM t).src.vals.toArray) (.agg (carryM t).dst.vals.toArray)).run Try.prog W = .ok () W := fun x y W => ad_guard .eql _ _ x y W
    have HSr := Lib.hid (fm_src (H8.out.at 6 rfl : Blk w7 PA 58 ((carryM t).vals tg)).box)
    have HDs := Lib.hid (fm_dst (H8.out.at 6 rfl : Blk w7 PA 58 ((carryM t).vals tg)).box)
    by_cases hsd : (carryM t).src = (carryM t).dst
    · have hd : decide ((carryM t).src = (carryM t).dst) = true := decide_eq_true hsd
      rw [hd] at E2
      clear hsd hd
      go_wp2_with (first
        | ((with_reducible refine wpList_load_rng (ty := 30) (b := ?b24) (o := ?o24) (ds := ?ds24) (carryM t).src.vals ?hx24 ?hB24 ?hu24 ?hd24 ?hi24 ?hk24)
           case hx24 => rfl
           case hB24 => exact HSr.out
           case hu24 => exact Try.underlying30
           case hd24 => rfl
           case hi24 => exact info30)
        | ((with_reducible refine wpList_load_rng (ty := 30) (b := ?b25) (o := ?o25) (ds := ?ds25) (carryM t).dst.vals ?hx25 ?hB25 ?hu25 ?hd25 ?hi25 ?hk25)
           case hx25 => rfl
           case hB25 => exact HDs.out
           case hu25 => exact Try.underlying30
           case hd25 => rfl
           case hi25 => exact info30)
        )
      go_ret
      exact ⟨rfl, H8.out.below⟩
    have hd : decide ((carryM t).src = (carryM t).dst) = false := decide_eq_false hsd
    rw [hd] at E2
    clear hsd hd
    obtain ⟨K1, hK1⟩ : ∃ K1, tabM L[pt].p pt (carryM t) now (es, kt) = K1 := ⟨_, rfl⟩
    have hko1 : KnowOk K1 now := by rw [← hK1]; exact tabM_ok Hko.out _ pt _ now (by omega) (Int.le_refl _)
    have hK2 : tabM L[pt].p pt (carryM t) now K1 = K1 := by rw [← hK1]; exact tab_twice _ _ _ _ _ _ Hko.out.1.len
    obtain ⟨es1, kt1⟩ := K1
    have HIn1 : Hid (∀ X, St w.heap.size w X (brd Bp T kt sv tb L' es (slI 4 tg (tagv (carryM t).tags) :: bk PA 58 ((carryM t).vals tg) :: [])) → Calls Try.prog 33 #[.pointer (some ⟨Bp, 0, none⟩), .int .i64 (pt : Int), .agg ((carryM t).vals tg).toArray, .int .i64 now] X fun e w' => ∃ (ov : Value) (R : List SRow) (tb' : Value), e = .returned (.tuple #[ov, .nilIface]) ∧ R.map SRow.res = inM (L.map PRow.p) L[pt].p pt (carryM t) now es1 ∧ St w.heap.size w w' (brd Bp T kt1 sv tb' L' es1 (slI 4 tg (tagv (carryM t).tags) :: bk PA 58 ((carryM t).vals tg) :: ownI 65 22 ov R.length (srows R) :: tagsI R :: []))) := Lib.hid fun X hX => by
      refine (in_st hX pt hptL (by rw [HLl.out]; omega) Hgo.out.2.1 Hko.out.1 Hko.out.2.1 now Hko.out.2.2 (by omega) (carry_ok t) Hgo.out.2.2).mono ?_
      rintro e w' ⟨ov, R, tb', rfl, hR, hs⟩
      rw [Hpp.out, hK1] at hR hs
      refine ⟨ov, R, tb', rfl, ?_, hs.perm (List.perm_append_comm (l₁ := [ownI 65 22 ov R.length (srows R), tagsI R]) (l₂ := brd Bp T kt1 sv tb' L' es1 (slI 4 tg (tagv (carryM t).tags) :: bk PA 58 ((carryM t).vals tg) :: [])))⟩
      rw [← HL.out]; exact hR
    have HIn2 : Hid (∀ X tv ov1 R1, St w.heap.size w X (brd Bp T kt1 sv tv L' es1 (slI 4 tg (tagv (carryM t).tags) :: bk PA 58 ((carryM t).vals tg) :: ownI 65 22 ov1 R1.length (srows R1) :: tagsI R1 :: [])) → Calls Try.prog 33 #[.pointer (some ⟨Bp, 0, none⟩), .int .i64 (pt : Int), .agg ((carryM t).vals tg).toArray, .int .i64 now] X fun e w' => ∃ (ov : Value) (R : List SRow), e = .returned (.tuple #[ov, .nilIface]) ∧ R.map SRow.res = inM (L.map PRow.p) L[pt].p pt (carryM t) now es1 ∧ St w.heap.size w w' (ownI 65 22 ov R.length (srows R) :: tagsI R :: ownI 65 22 ov1 R1.length (srows R1) :: tagsI R1 :: [])) := Lib.hid fun X tv ov1 R1 hX => by
      refine (in_st hX pt hptL (by rw [HLl.out]; omega) Hgo.out.2.1 hko1.1 hko1.2.1 now hko1.2.2 (by omega) (carry_ok t) Hgo.out.2.2).mono ?_
      rintro e w' ⟨ov, R, tb', rfl, hR, hs⟩
      rw [Hpp.out, hK2] at hR hs
      refine ⟨ov, R, rfl, ?_, (brd_off hs).sub (.cons_cons _ (.cons_cons _ (.cons _ (.cons _ (List.Sublist.refl _)))))⟩
      rw [← HL.out]; exact hR
    have hM1 : ∀ x ∈ inM (L.map PRow.p) L[pt].p pt (carryM t) now es1, x.2.tags.length ≤ 1 := fun x hx => by
      obtain ⟨j, hj, e, _⟩ := in_facts hx
      rw [e]
      exact leave_few _ _ _
    have hM8 : (inM (L.map PRow.p) L[pt].p pt (carryM t) now es1).length ≤ 8 := by
      unfold inM
      split
      · refine Nat.le_trans (outFrom_len ..) ?_
        rw [List.length_map, Hn.out]; exact hn8
      · simp
    generalize inM (L.map PRow.p) L[pt].p pt (carryM t) now es1 = M at *
    have HM1 := Lib.hid hM1
    clear hM1 hK1 hK2 hko1 HL Hgo Hpp
    go_upto_region 11 with (first
      | ((with_reducible refine wpList_load_rng (ty := 30) (b := ?b26) (o := ?o26) (ds := ?ds26) (carryM t).src.vals ?hx26 ?hB26 ?hu26 ?hd26 ?hi26 ?hk26)
         case hx26 => rfl
         case hB26 => exact HSr.out
         case hu26 => exact Try.underlying30
         case hd26 => rfl
         case hi26 => exact info30)
      | ((with_reducible refine wpList_load_rng (ty := 30) (b := ?b27) (o := ?o27) (ds := ?ds27) (carryM t).dst.vals ?hx27 ?hB27 ?hu27 ?hd27 ?hi27 ?hk27)
         case hx27 => rfl
         case hB27 => exact HDs.out
         case hu27 => exact Try.underlying30
         case hd27 => rfl
         case hi27 => exact info30)
      )
    clear E2 G2 HSr HDs
    go_upto_region 12 with (first
      | ((with_reducible refine wpList_load_box (ty := 58) (b := ?b28) (ds := ?ds28) ((carryM t).vals tg) ?hx28 ?hB28 ?hu28 ?hd28 ?hi28 ?hk28)
         case hx28 => rfl
         case hB28 => exact (Blk.box (H8.out.at 6 rfl))
         case hu28 => exact Try.underlying58
         case hd28 => rfl
         case hi28 => exact info58)
      | ((with_reducible refine (HIn1.out _ H8.out).mono ?_)
         rintro e w9 ⟨ov1, R1, tb9, rfl, hR1, h9⟩
         have HR1 := Lib.hid hR1
         have H9 := Lib.hid h9
         clear hR1 h9 H8 HIn1)
      )
    go_upto_region 13 with (first
      | ((with_reducible refine wpList_load_box (ty := 58) (b := ?b30) (ds := ?ds30) ((carryM t).vals tg) ?hx30 ?hB30 ?hu30 ?hd30 ?hi30 ?hk30)
         case hx30 => rfl
         case hB30 => exact (Blk.box (H9.out.at 6 rfl))
         case hu30 => exact Try.underlying58
         case hd30 => rfl
         case hi30 => exact info58)
      | ((with_reducible refine (HIn2.out _ _ _ _ H9.out).mono ?_)
         rintro e w14 ⟨ov2, R2, rfl, hR2, h14⟩
         have HR2 := Lib.hid hR2
         have H14 := Lib.hid h14
         clear hR2 h14 H9 HIn2)
      )
    obtain ⟨Ao, co, eo, hro⟩ := out_rows (H14.out.tail.tail.head : World.ownsRow w14 0 65 22 ov1 R1.length (srows R1))
    obtain ⟨Ap, cp, ep, hrp⟩ := out_rows (H14.out.head : World.ownsRow w14 0 65 22 ov2 R2.length (srows R2))
    have hl1 : R1.length = M.length := by rw [← HR1.out, List.length_map]
    have hl2 : R2.length = M.length := by rw [← HR2.out, List.length_map]
    rw [hl1] at eo
    rw [hl2] at ep
    have HE := Lib.hid (eqf_sent R1 R2 M.length hl1 hl2 (HR1.out.trans HR2.out.symm) Ao Ap co cp w14 (by omega) hro hrp (H14.out.tail.tail.tail.head : ∀ r ∈ R1, SlAt w14 4 r.tv (tagv r.f.tags)) (H14.out.tail.head : ∀ r ∈ R2, SlAt w14 4 r.tv (tagv r.f.tags)) (fun r hr => HM1.out r.res (by rw [← HR1.out]; exact List.mem_map.2 ⟨r, hr, rfl⟩)))
    clear hro hrp hl1 hl2
    subst eo
    subst ep
    generalize M.length = mm at *
    go_wp2_with (first
      | ((with_reducible refine HE.out.mono ?_)
         rintro e w15 ⟨rfl, hb15⟩
         have H15 := Lib.hid (H14.out.ext hb15)
         clear hb15)
      )
    go_ret
    exact ⟨rfl, H15.out.below⟩
end Go.Proofs.Ytoenlcmngdpkmaa

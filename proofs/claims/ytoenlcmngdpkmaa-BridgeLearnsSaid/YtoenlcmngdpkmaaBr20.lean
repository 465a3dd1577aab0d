/- The law of BridgeLearns. -/
import Derived.Test.YtoenlcmngdpkmaaBr18
import Derived.Test.YtoenlcmngdpkmaaHeldG
namespace Go.Proofs.Ytoenlcmngdpkmaa
open Go.RowKit Go.ChangeShapes Go.WideShapes Go.Deep
theorem trS_in {B PT : Nat} {w0 w : World} {A : List It} {x : Trp} (H : St B w0 w A) (h : bk PT 52 x.vals ∈ A) : TrS PT x.vals w := trS (H.own _ h)
theorem learns_law {L : List PRow} (hL : L.map PRow.p = List.replicate 5 plainP) (t1 x2 : Trp) (hm : t1.many = false) (hm2 : x2.many = false) (hs : x2.src = t1.dst) (hd : x2.dst = t1.src) (hv : x2.vid = t1.vid) (es : List Ent) (kt now : Int) {pt pp : Nat} (hpt : pt < 5) (hpp : pp < 5)
    (hne : (carryM t1).src ≠ (carryM t1).dst) (hvid : vidM plainP (carryM t1).tags ≠ 0) :
    ((inM (L.map PRow.p) plainP pt (carryM t1) now (tabM plainP pt (carryM t1) now (tabM plainP pp (carryM x2) now (es, kt))).1).map (·.1)) = if pt = pp then [] else [pp] := by
  have htags : (carryM x2).tags = (carryM t1).tags := by unfold carryM; simp only [hv]
  have hsrc : (carryM x2).src = (carryM t1).dst := by unfold carryM toM; simp only [hs, hm]; rfl
  have h1 : hearsM plainP (carryM x2) = true := by
    unfold hearsM
    rw [htags, decide_eq_false hvid, show resM (carryM x2).dst = false from res_adOf _ _]
    rfl
  have h2 : hearsM plainP (carryM t1) = true := by
    unfold hearsM
    rw [decide_eq_false hvid, show resM (carryM t1).dst = false from res_adOf _ _]
    rfl
  rw [heard1 h1, heard1 h2, inM_pass h2 rfl, htags, hsrc]
  have hmany : manyM (carryM t1).dst = false := by
    have : (carryM t1).dst = adOf (pickN t1.dst 60) := by unfold carryM toM; simp only [hm]; rfl
    rw [this]; show decide ((2 : UInt8).toNat % 2 = 1) = false; decide
  have hon : onlyM plainP (carryM t1) now (learnM (learnM es (vidM plainP (carryM t1).tags) (carryM t1).dst pp now 100) (vidM plainP (carryM t1).tags) (carryM t1).src pt now 100) = (pp : Int) := by
    unfold onlyM
    rw [hmany]
    exact look_last (Ne.symm hne)
  rw [hon, hL]
  by_cases h : pt = pp
  · subst h
    rw [outFrom_self, if_pos rfl]; rfl
  · rw [if_neg h]
    have hin : vidM plainP (carryM t1).tags ∈ plainP.ins := by
      rcases vidM_range (rightP_ok (p := plainP) (by decide)) (carryM t1).tags with h | h
      · exact absurd h hvid
      · exact h.2.2
    exact outFrom_only _ _ _ _ _ _ (fun q hq => by rw [List.eq_of_mem_replicate hq]; exact ⟨rfl, hin⟩) (by omega) (by simp; omega) (fun e => h e.symm)
set_option maxRecDepth 100000 in
set_option maxHeartbeats 16000000 in
theorem law_BridgeLearns (v0 : Value) (X : List Trp) (v1 : Value) (t : Trp) (port : Int) (_ : (Lit.int .i64 port).wf = true) (w : World) (hv0 : IsTrips w v0 X) (hv1 : IsTrip w v1 t) :
    Calls Try.prog 8 #[v0, v1, .int .i64 port] w fun e w' => e = .returned (.bool true) ∧ Below w.heap.size w w' := by
  unfold IsTrip at hv1
  subst hv1
  obtain ⟨hs1, hlen1⟩ := hv0
  obtain ⟨A1, k1, e1, _, _⟩ := hs1.row
  rw [List.length_map] at e1
  have HTr : Hid (∀ W, Below w.heap.size w W → SlAt W 6 v0 (X.map Trp.vals)) := Lib.hid fun W hW => hs1.below hW
  have H1 := Lib.hid ((St.init w).alloc t.vals 52)
  clear hs1
  subst e1
  go_enter Try.func8, Try.ntmps8
  go_upto_region 1 with (fail)
  generalize w.alloc (.cells t.vals.toArray 52) = W1 at *
  by_cases h60 : 60 < X.length
  · go_wp2_with (first
      | ((with_reducible refine (passes_any _).mono ?_)
         rintro e w2 ⟨rfl, hb2⟩
         have H2 := Lib.hid (H1.out.ext hb2)
         clear hb2)
      )
    go_ret
    exact ⟨rfl, H2.out.below⟩
  have h60' : X.length ≤ 60 := by omega
  have hkn := served_ok (List.replicate 5 plainP) (by simp) (by simp) X ([], 0) 0 (by omega) KnowOk.nil
  have HSv : Hid (∀ W sv (L : List PRow), SlAt W 4 sv (L.map PRow.vals) → (∀ q ∈ L, q.In W) → L.map PRow.p = List.replicate 5 plainP → Below w.heap.size w W → Calls Try.prog 30 #[sv, .slice A1 X.length k1] W (Served W (List.replicate 5 plainP) X)) := Lib.hid fun W sv L h1 h2 h3 hW => by
    have := served_any L sv W h1 h2 (by rw [h3]; exact plain_good 5 (by omega)) (by have := congrArg List.length h3; simp at this; omega) X _ (HTr.out W hW) h60'
    rw [h3] at this
    exact this
  unfold Served at HSv
  generalize (servedM (List.replicate 5 plainP) ([], 0) 0 X).2 = now at *
  generalize hes : (servedM (List.replicate 5 plainP) ([], 0) 0 X).1 = KN at *
  clear hes
  obtain ⟨es, kt⟩ := KN
  try simp only [] at hkn
  obtain ⟨hko, hnow0, hnow1⟩ := hkn
  have hnow : now ≤ 1140 := by omega
  have Hko := Lib.hid hko
  clear hko hnow1
  have HPl : Hid (∀ W, Calls Try.prog 35 #[.int .i64 5] W fun e w' => ∃ sv L, e = .returned sv ∧ L.map PRow.p = List.replicate 5 plainP ∧ St W.heap.size W w' [ownI 44 4 sv L.length (prows L), subP L]) := Lib.hid fun W => plain_any 5 (by omega) W
  go_upto_region 8 with (first
    | ((with_reducible refine (passes_any _).mono ?_)
       rintro e w2 ⟨rfl, hb2⟩
       have H2 := Lib.hid (H1.out.ext hb2)
       clear hb2 H1)
    | ((with_reducible refine (HPl.out _).mono ?_)
       rintro e w3 ⟨svp, Lp, rfl, hLp, h3⟩
       have hop := own_ports h3
       have H3 := Lib.hid (H2.out.ext h3.below)
       have HSv2 := Lib.hid (HSv.out _ _ _ hop.1 hop.2 hLp H3.out.below)
       clear hop h3 hLp HSv)
    | ((with_reducible refine HSv2.out.mono ?_)
       rintro e w4 ⟨Bp, T, sv, tb, L, rfl, hL, h4⟩
       have H4 := Lib.hid (H3.out.app h4)
       have HL := Lib.hid hL
       clear h4 hL HSv2 H3)
    )
  have hLl : L.length = 5 := by
    have := congrArg List.length HL.out
    simpa using this
  have HLl := Lib.hid hLl
  have Hgo := Lib.hid (good_ok HL.out (plain_good 5 (by omega)))
  have HPK : Hid (∀ W, Calls Try.prog 16 #[.int .i64 t.port, .int .i64 5] W fun e w' => e = .returned (.int .i64 (pickN t.port 5 : Nat)) ∧ W = w') := pick_hid' t.port 5 (by omega) (by omega)
  have HPP : Hid (∀ W, Calls Try.prog 16 #[.int .i64 port, .int .i64 5] W fun e w' => e = .returned (.int .i64 (pickN port 5 : Nat)) ∧ W = w') := pick_hid' port 5 (by omega) (by omega)
  have hpk := pickN_lt t.port 5 (by omega)
  have hpp := pickN_lt port 5 (by omega)
  have HPat := Lib.hid (fun k (hk : k < L.length) => plain_at HL.out hk)
  clear hLl HTr HPl
  obtain ⟨t1, ht1⟩ : ∃ t1 : Trp, t1 = ⟨t.port, t.src, t.dst, t.vid, t.after, false⟩ := ⟨_, rfl⟩
  have c5 : w4.cell? ⟨w.heap.size, 5, none⟩ = some (.bool t.many) := (H4.out.at 5 rfl : Blk w4 w.heap.size 52 t.vals).box.cell 5
  have z5 : w4.frozen? ⟨w.heap.size, 5, none⟩ = false := (H4.out.at 5 rfl : Blk w4 w.heap.size 52 t.vals).box.frozen 5
  have h5 : St w.heap.size w (w4.setCell ⟨w.heap.size, 5, none⟩ (.bool false)) (bk w.heap.size 52 t1.vals :: brd Bp T kt sv tb L es []) := by
    have h := (H4.out.pull 5 rfl).set 5 (.bool false) (by rw [Trp.len]; decide)
    subst ht1
    exact h
  have H5 : Hid (St w.heap.size w (w4.setCell ⟨w.heap.size, 5, none⟩ (.bool false)) (brd Bp T kt sv tb L es (bk w.heap.size 52 t1.vals :: []))) := Lib.hid (h5.perm (brd_under Bp T kt sv tb L es [bk w.heap.size 52 t1.vals] []))
  clear h5
  go_upto_region 9 with (fail)
  clear c5 z5 H4
  generalize World.setCell _ _ _ = w5 at *
  have ht1p : t1.port = t.port := by rw [ht1]
  rw [← ht1p] at HPK
  have Ht1p := Lib.hid ht1p
  have Ht1 := Lib.hid ht1
  clear ht1p ht1
  have HH := Lib.hid H5.out.drew
  have hS0 := trS_in HH.out (List.mem_of_getElem? (i := 5) rfl)
  have cP : ∀ X, TrS w.heap.size t1.vals X → X.cell? ⟨w.heap.size, 0, none⟩ = some (.int .i64 t1.port) := fun X h => h.p
  have cR : Hid (∀ X, TrS w.heap.size t1.vals X → X.rangeAt w.heap.size 0 t1.vals) := Lib.hid fun X h => h.r
  go_cut [9, 10] (fun p q wx => ∃ PA tg, p = .pointer (some ⟨PA, 0, none⟩) ∧ q = .int .i64 (pickN t1.port 5 : Nat) ∧ Hid (St w.heap.size w wx (slI 4 tg (tagv (carryM t1).tags) :: bk PA 58 ((carryM t1).vals tg) :: brd Bp T kt sv tb L es (bk w.heap.size 52 t1.vals :: []))))
  case first =>
    refine wp_region_last (TrS w.heap.size t1.vals) 7 (by kernel_rfl) hS0 (fun hHeld => ?_)
    refine wpAnyG_take 2 (oi := ?o6) ?v6 ?hi6 (by kernel_rfl) (by kernel_rfl) (by decide) (by kernel_rfl) (by kernel_rfl) ?hq6 ?hg6 ?hy6 (by assumption) ?hk6
    case hi6 => (simp only [List.getElem?_toArray, List.getElem?_cons_succ, List.getElem?_cons_zero]; rfl)
    case hq6 => exact fun _ _ _ h => h
    case hg6 => rfl
    case hy6 => (intro X hX; go_simp; try with_reducible rfl)
    try simp only [Act.put, List.setIfInBounds_toArray, List.set_cons_zero, List.set_cons_succ]
    refine wpAnyG_take 3 (oi := ?o7) ?v7 ?hi7 (by kernel_rfl) (by kernel_rfl) (by decide) (by kernel_rfl) (by kernel_rfl) ?hq7 ?hg7 ?hy7 (by assumption) ?hk7
    case hi7 => (simp only [List.getElem?_toArray, List.getElem?_cons_succ, List.getElem?_cons_zero]; rfl)
    case hq7 => exact fun _ _ _ h => h
    case hg7 => rfl
    case hy7 => (intro X hX; go_simp; try with_reducible rfl)
    try simp only [Act.put, List.setIfInBounds_toArray, List.set_cons_zero, List.set_cons_succ]
    refine wpAnyG_take 0 (oi := ?o8) (.agg (t1.vals).toArray) ?hi8 (by kernel_rfl) (by kernel_rfl) (by decide) (by kernel_rfl) (by kernel_rfl) ?hq8 ?hg8 ?hy8 (by assumption) ?hk8
    case hi8 => (simp only [List.getElem?_toArray, List.getElem?_cons_succ, List.getElem?_cons_zero]; rfl)
    case hq8 => exact fun _ _ _ h => h
    case hg8 => rfl
    case hy8 => exact fun X hX => exec_load_rng (ty := 52) (t1.vals) rfl (cR.out X hX) Try.underlying52 rfl info52
    try simp only [Act.put, List.setIfInBounds_toArray, List.set_cons_zero, List.set_cons_succ]
    refine wpAnyG_two 1 5 (o := ?oca) (u := ?uca) (by kernel_rfl) ?hica ?hjca ?hgca ?huca ?haca ?hbca
    case hica => (simp only [List.getElem?_toArray, List.getElem?_cons_succ, List.getElem?_cons_zero]; rfl)
    case hjca => (simp only [List.getElem?_toArray, List.getElem?_cons_succ, List.getElem?_cons_zero]; rfl)
    case hgca => rfl
    case huca => rfl
    case haca =>
      intro K hK
      go_simp
      refine (carried_any t1 _).mono ?_
      rintro e X1 ⟨tg, rfl, hc1⟩
      have hSx := trS_in (HH.out.add (k := slI 4 tg (tagv (carryM t1).tags)) hc1.below hc1.head (fun g hg => hc1.low _ (List.mem_cons_self ..) g hg)) (List.mem_of_getElem? (i := 6) rfl)
      refine hK.out _ _ (fun _ => hSx) (fun _ => ?_)
      have hHeld := hSx
      have HH := Lib.hid (HH.out.add (k := slI 4 tg (tagv (carryM t1).tags)) hc1.below hc1.head (fun g hg => hc1.low _ (List.mem_cons_self ..) g hg))
      clear hK K hc1 hSx
      try simp only [Act.put, List.setIfInBounds_toArray, List.set_cons_zero, List.set_cons_succ]
      refine wpAnyG_two 4 5 (o := ?ocb) (u := ?ucb) (by kernel_rfl) ?hicb ?hjcb ?hgcb ?hucb ?hacb ?hbcb
      case hicb => (simp only [List.getElem?_toArray, List.getElem?_cons_succ, List.getElem?_cons_zero]; rfl)
      case hjcb => (simp only [List.getElem?_toArray, List.getElem?_cons_succ, List.getElem?_cons_zero]; rfl)
      case hgcb => rfl
      case hucb => rfl
      case hacb =>
        intro K hK
        go_simp
        refine (HPK.out _).mono ?_
        rintro e X1 ⟨rfl, rfl⟩
        refine hK.out _ _ (fun _ => hHeld) (fun _ => ?_)
        clear hK K
        try simp only [Act.put, List.setIfInBounds_toArray, List.set_cons_zero, List.set_cons_succ]
        refine wpAnyG_one 5 (o := ?o9) (by kernel_rfl) ?hi9 ?hg9 ?hk9
        case hi9 => (simp only [List.getElem?_toArray, List.getElem?_cons_succ, List.getElem?_cons_zero]; rfl)
        case hg9 => rfl
        intro K hK
        go_simp
        have hSx := trS_in (HH.out.alloc zFm 58) (List.mem_of_getElem? (i := 7) rfl)
        refine hK.out _ _ (fun _ => hSx) (fun _ => ?_)
        have hHeld := hSx
        have HH := Lib.hid (HH.out.alloc zFm 58)
        clear hK K hSx
        try simp only [Act.put, List.setIfInBounds_toArray, List.set_cons_zero, List.set_cons_succ]
        have hone := slat_one' (HH.out.item (k := slI 4 tg (tagv (carryM t1).tags)) (List.mem_of_getElem? (i := 1) rfl) : SlAt _ 4 tg _)
        refine wpAnyG_one 6 (o := ?o10) (by kernel_rfl) ?hi10 ?hg10 ?hk10
        case hi10 => (simp only [List.getElem?_toArray, List.getElem?_cons_succ, List.getElem?_cons_zero]; rfl)
        case hg10 => rfl
        intro K hK
        refine oper_store_blk (ty := 58) (o := 0) (t := 58) zFm ((carryM t1).vals tg) (by rfl) (by rfl) (by exact HH.out.at 0 rfl) (by exact Nat.le_refl _) info58 (Fm.one _ hone) ?_
        intro W9 hB9 ho9
        have h9 := (HH.out.pull 0 rfl).sets hB9 ho9
        have hSx := trS_in (h9) (List.mem_of_getElem? (i := 7) rfl)
        refine hK.out _ _ (fun _ => hSx) (fun _ => ?_)
        have hHeld := hSx
        have HH := Lib.hid h9
        clear hK K hSx h9 hB9 ho9
        try simp only [Act.put, List.setIfInBounds_toArray, List.set_cons_zero, List.set_cons_succ]
        refine wpAnyG_one 7 (o := ?o11) (by kernel_rfl) ?hi11 ?hg11 ?hk11
        case hi11 => (simp only [List.getElem?_toArray, List.getElem?_cons_succ, List.getElem?_cons_zero]; rfl)
        case hg11 => rfl
        intro K hK
        go_simp
        refine hK.out _ _ (fun h => absurd rfl h) (fun _ => ?_)
        refine wpAnyG_done (by kernel_rfl) ?_ _
        have hfin := HH.out.swap
        have HFin := Lib.hid hfin
        clear hK hHeld HH hfin
        go_wp2_with fail
        go_meet
        exact ⟨_, tg, rfl, rfl, Lib.hid HFin.out⟩
      case hbcb =>
        intro K hK
        go_simp
        have hSx := trS_in (HH.out.alloc zFm 58) (List.mem_of_getElem? (i := 7) rfl)
        refine hK.out _ _ (fun _ => hSx) (fun _ => ?_)
        have hHeld := hSx
        have HH := Lib.hid (HH.out.alloc zFm 58)
        clear hK K hSx
        try simp only [Act.put, List.setIfInBounds_toArray, List.set_cons_zero, List.set_cons_succ]
        refine wpAnyG_one 4 (o := ?o12) (by kernel_rfl) ?hi12 ?hg12 ?hk12
        case hi12 => (simp only [List.getElem?_toArray, List.getElem?_cons_succ, List.getElem?_cons_zero]; rfl)
        case hg12 => rfl
        intro K hK
        go_simp
        refine (HPK.out _).mono ?_
        rintro e X1 ⟨rfl, rfl⟩
        refine hK.out _ _ (fun _ => hHeld) (fun _ => ?_)
        clear hK K
        try simp only [Act.put, List.setIfInBounds_toArray, List.set_cons_zero, List.set_cons_succ]
        have hone := slat_one' (HH.out.item (k := slI 4 tg (tagv (carryM t1).tags)) (List.mem_of_getElem? (i := 1) rfl) : SlAt _ 4 tg _)
        refine wpAnyG_one 6 (o := ?o13) (by kernel_rfl) ?hi13 ?hg13 ?hk13
        case hi13 => (simp only [List.getElem?_toArray, List.getElem?_cons_succ, List.getElem?_cons_zero]; rfl)
        case hg13 => rfl
        intro K hK
        refine oper_store_blk (ty := 58) (o := 0) (t := 58) zFm ((carryM t1).vals tg) (by rfl) (by rfl) (by exact HH.out.at 0 rfl) (by exact Nat.le_refl _) info58 (Fm.one _ hone) ?_
        intro W9 hB9 ho9
        have h9 := (HH.out.pull 0 rfl).sets hB9 ho9
        have hSx := trS_in (h9) (List.mem_of_getElem? (i := 7) rfl)
        refine hK.out _ _ (fun _ => hSx) (fun _ => ?_)
        have hHeld := hSx
        have HH := Lib.hid h9
        clear hK K hSx h9 hB9 ho9
        try simp only [Act.put, List.setIfInBounds_toArray, List.set_cons_zero, List.set_cons_succ]
        refine wpAnyG_one 7 (o := ?o14) (by kernel_rfl) ?hi14 ?hg14 ?hk14
        case hi14 => (simp only [List.getElem?_toArray, List.getElem?_cons_succ, List.getElem?_cons_zero]; rfl)
        case hg14 => rfl
        intro K hK
        go_simp
        refine hK.out _ _ (fun h => absurd rfl h) (fun _ => ?_)
        refine wpAnyG_done (by kernel_rfl) ?_ _
        have hfin := HH.out.swap
        have HFin := Lib.hid hfin
        clear hK hHeld HH hfin
        go_wp2_with fail
        go_meet
        exact ⟨_, tg, rfl, rfl, Lib.hid HFin.out⟩
    case hbca =>
      intro K hK
      go_simp
      have hSx := trS_in (HH.out.alloc zFm 58) (List.mem_of_getElem? (i := 6) rfl)
      refine hK.out _ _ (fun _ => hSx) (fun _ => ?_)
      have hHeld := hSx
      have HH := Lib.hid (HH.out.alloc zFm 58)
      clear hK K hSx
      try simp only [Act.put, List.setIfInBounds_toArray, List.set_cons_zero, List.set_cons_succ]
      refine wpAnyG_one 1 (o := ?o15) (by kernel_rfl) ?hi15 ?hg15 ?hk15
      case hi15 => (simp only [List.getElem?_toArray, List.getElem?_cons_succ, List.getElem?_cons_zero]; rfl)
      case hg15 => rfl
      intro K hK
      go_simp
      refine (carried_any t1 _).mono ?_
      rintro e X1 ⟨tg, rfl, hc1⟩
      have hSx := trS_in (HH.out.add (k := slI 4 tg (tagv (carryM t1).tags)) hc1.below hc1.head (fun g hg => hc1.low _ (List.mem_cons_self ..) g hg)) (List.mem_of_getElem? (i := 7) rfl)
      refine hK.out _ _ (fun _ => hSx) (fun _ => ?_)
      have hHeld := hSx
      have HH := Lib.hid (HH.out.add (k := slI 4 tg (tagv (carryM t1).tags)) hc1.below hc1.head (fun g hg => hc1.low _ (List.mem_cons_self ..) g hg))
      clear hK K hc1 hSx
      try simp only [Act.put, List.setIfInBounds_toArray, List.set_cons_zero, List.set_cons_succ]
      refine wpAnyG_one 4 (o := ?o16) (by kernel_rfl) ?hi16 ?hg16 ?hk16
      case hi16 => (simp only [List.getElem?_toArray, List.getElem?_cons_succ, List.getElem?_cons_zero]; rfl)
      case hg16 => rfl
      intro K hK
      go_simp
      refine (HPK.out _).mono ?_
      rintro e X1 ⟨rfl, rfl⟩
      refine hK.out _ _ (fun _ => hHeld) (fun _ => ?_)
      clear hK K
      try simp only [Act.put, List.setIfInBounds_toArray, List.set_cons_zero, List.set_cons_succ]
      have hone := slat_one' (HH.out.item (k := slI 4 tg (tagv (carryM t1).tags)) (List.mem_of_getElem? (i := 0) rfl) : SlAt _ 4 tg _)
      refine wpAnyG_one 6 (o := ?o17) (by kernel_rfl) ?hi17 ?hg17 ?hk17
      case hi17 => (simp only [List.getElem?_toArray, List.getElem?_cons_succ, List.getElem?_cons_zero]; rfl)
      case hg17 => rfl
      intro K hK
      refine oper_store_blk (ty := 58) (o := 0) (t := 58) zFm ((carryM t1).vals tg) (by rfl) (by rfl) (by exact HH.out.at 1 rfl) (by exact Nat.le_refl _) info58 (Fm.one _ hone) ?_
      intro W9 hB9 ho9
      have h9 := (HH.out.pull 1 rfl).sets hB9 ho9
      have hSx := trS_in (h9) (List.mem_of_getElem? (i := 7) rfl)
      refine hK.out _ _ (fun _ => hSx) (fun _ => ?_)
      have hHeld := hSx
      have HH := Lib.hid h9
      clear hK K hSx h9 hB9 ho9
      try simp only [Act.put, List.setIfInBounds_toArray, List.set_cons_zero, List.set_cons_succ]
      refine wpAnyG_one 7 (o := ?o18) (by kernel_rfl) ?hi18 ?hg18 ?hk18
      case hi18 => (simp only [List.getElem?_toArray, List.getElem?_cons_succ, List.getElem?_cons_zero]; rfl)
      case hg18 => rfl
      intro K hK
      go_simp
      refine hK.out _ _ (fun h => absurd rfl h) (fun _ => ?_)
      refine wpAnyG_done (by kernel_rfl) ?_ _
      have hfin := HH.out.swap
      have HFin := Lib.hid hfin
      clear hK hHeld HH hfin
      go_wp2_with fail
      go_meet
      exact ⟨_, tg, rfl, rfl, Lib.hid HFin.out⟩
  case rest =>
    obtain ⟨PA, tg, rfl, rfl, H6⟩ := hcut
    clear HH hS0 cP cR HPK H5
    generalize wc = w6 at *
    have d1 : w6.cell? ⟨w.heap.size, 1, none⟩ = some (.int .i64 t1.src) := (H6.out.at 7 rfl : Blk w6 w.heap.size 52 t1.vals).box.cell 1
    have d2 : w6.cell? ⟨w.heap.size, 2, none⟩ = some (.int .i64 t1.dst) := (H6.out.at 7 rfl : Blk w6 w.heap.size 52 t1.vals).box.cell 2
    have d3 : w6.cell? ⟨w.heap.size, 3, none⟩ = some (.int .i64 t1.vid) := (H6.out.at 7 rfl : Blk w6 w.heap.size 52 t1.vals).box.cell 3
    obtain ⟨x2, hx2⟩ : ∃ x2 : Trp, x2 = ⟨0, t1.dst, t1.src, t1.vid, 0, false⟩ := ⟨_, rfl⟩
    have HC2 : Hid (∀ W, Calls Try.prog 31 #[.agg #[.int .i64 0, .int .i64 t1.dst, .int .i64 t1.src, .int .i64 t1.vid, .int .i64 0, .bool false]] W fun e w' => ∃ tv, e = .returned (.agg ((carryM x2).vals tv).toArray) ∧ St W.heap.size W w' [slI 4 tv (tagv (carryM x2).tags)]) := Lib.hid fun W => by
      have h := carried_any x2 W
      have e : Value.agg x2.vals.toArray = .agg #[.int .i64 0, .int .i64 t1.dst, .int .i64 t1.src, .int .i64 t1.vid, .int .i64 0, .bool false] := by rw [hx2]; rfl
      rw [e] at h
      exact h
    have Hx2 := Lib.hid hx2
    clear hx2
    go_upto_region 12 with (first
      | ((with_reducible refine (HPP.out _).mono ?_)
         rintro e w9 ⟨rfl, rfl⟩
         skip)
      | ((with_reducible refine (HC2.out _).mono ?_)
         rintro e w7 ⟨tg2, rfl, hc7⟩
         have hone2 := slat_one' (hc7.head : SlAt w7 4 tg2 _)
         have H7 := Lib.hid (H6.out.add (k := slI 4 tg2 (tagv (carryM x2).tags)) hc7.below hc7.head (fun g hg => hc7.low _ (List.mem_cons_self ..) g hg))
         clear hc7 H6)
      | ((with_reducible refine wpList_store_blk (ty := 58) (b := ?b21) (o := ?o21) (t := 58) zFm ((carryM x2).vals tg2) ?hx21 ?hy21 ?hB21 ?ho21 ?hi21 ?h121 ?hk21)
         case hx21 => rfl
         case hy21 => rfl
         case hB21 => exact Blk.new w7 zFm 58
         case ho21 => exact Nat.le_refl _
         case hi21 => exact info58
         case h121 => exact (Fm.one _ hone2)
         intro W9 hBW9 hoW9))
    obtain ⟨hb8, lPB⟩ := Only.fresh hoW9
    have h8 := ((H7.out.add (k := bk w7.heap.size 58 ((carryM x2).vals tg2)) hb8 hBW9 (fun g hg => by rw [List.mem_singleton.1 hg]; exact Nat.le_refl _)).swap).perm (brd_under Bp T kt sv tb L es [slI 4 tg2 (tagv (carryM x2).tags), bk w7.heap.size 58 ((carryM x2).vals tg2), slI 4 tg (tagv (carryM t1).tags), bk PA 58 ((carryM t1).vals tg)] [bk w.heap.size 52 t1.vals])
    generalize w7.heap.size = PB at *
    have H8 : Hid (St w.heap.size w W9 (brd Bp T kt sv tb L es (slI 4 tg2 (tagv (carryM x2).tags) :: bk PB 58 ((carryM x2).vals tg2) :: slI 4 tg (tagv (carryM t1).tags) :: bk PA 58 ((carryM t1).vals tg) :: bk w.heap.size 52 t1.vals :: []))) := Lib.hid h8
    clear h8 hBW9 hoW9 hb8 H7 lPB HC2 HPP d1 d2 d3
    generalize hpp' : pickN port 5 = pp at *
    generalize hpt' : pickN t1.port 5 = pt at *
    have hpk : pt < 5 := by rw [← hpt', Ht1p.out]; exact hpk
    have hptL : pt < L.length := by rw [HLl.out]; exact hpk
    have hppL : pp < L.length := by rw [HLl.out]; exact hpp
    have e1 : L[pt].p = plainP := HPat.out pt hptL
    have e2 : L[pp].p = plainP := HPat.out pp hppL
    obtain ⟨K1, hK1⟩ : ∃ K1, tabM plainP pp (carryM x2) now (es, kt) = K1 := ⟨_, rfl⟩
    have hko1 : KnowOk K1 now := by rw [← hK1]; exact tabM_ok Hko.out _ pp _ now (by omega) (Int.le_refl _)
    have hlaw := fun hne hvid => learns_law HL.out t1 x2 (by rw [Ht1.out]) (by rw [Hx2.out]) (by rw [Hx2.out]) (by rw [Hx2.out]) (by rw [Hx2.out]) es kt now hpk hpp hne hvid
    rw [hK1] at hlaw
    obtain ⟨es1, kt1⟩ := K1
    have HIn1 : Hid (∀ X tv, St w.heap.size w X (brd Bp T kt sv tv L es (slI 4 tg2 (tagv (carryM x2).tags) :: bk PB 58 ((carryM x2).vals tg2) :: slI 4 tg (tagv (carryM t1).tags) :: bk PA 58 ((carryM t1).vals tg) :: bk w.heap.size 52 t1.vals :: [])) → Calls Try.prog 33 #[.pointer (some ⟨Bp, 0, none⟩), .int .i64 (pp : Int), .agg ((carryM x2).vals tg2).toArray, .int .i64 now] X fun e w' => ∃ ov tb', e = .returned (.tuple #[ov, .nilIface]) ∧ St w.heap.size w w' (brd Bp T kt1 sv tb' L es1 (slI 4 tg (tagv (carryM t1).tags) :: slI 4 tg2 (tagv (carryM x2).tags) :: bk PB 58 ((carryM x2).vals tg2) :: bk PA 58 ((carryM t1).vals tg) :: bk w.heap.size 52 t1.vals :: []))) := Lib.hid fun X tv hX => by
      refine (in_st hX pp hppL (by rw [HLl.out]; omega) Hgo.out.2.1 Hko.out.1 Hko.out.2.1 now Hko.out.2.2 (by omega) (carry_ok x2) Hgo.out.2.2).mono ?_
      rintro e w' ⟨ov, R, tb', rfl, hR, hs⟩
      rw [e2, hK1] at hs
      refine ⟨ov, tb', rfl, ?_⟩
      exact (hs.tail.tail.pull 7 rfl).perm (brd_under Bp T kt1 sv tb' L es1 [slI 4 tg (tagv (carryM t1).tags)] _)
    have HIn2 : Hid ((carryM t1).src ≠ (carryM t1).dst → vidM plainP (carryM t1).tags ≠ 0 → ∀ X tv, St w.heap.size w X (brd Bp T kt1 sv tv L es1 (slI 4 tg (tagv (carryM t1).tags) :: slI 4 tg2 (tagv (carryM x2).tags) :: bk PB 58 ((carryM x2).vals tg2) :: bk PA 58 ((carryM t1).vals tg) :: bk w.heap.size 52 t1.vals :: [])) → Calls Try.prog 33 #[.pointer (some ⟨Bp, 0, none⟩), .int .i64 (pt : Int), .agg ((carryM t1).vals tg).toArray, .int .i64 now] X fun e w' => ∃ (A : Option Addr) (c : Nat) (R : List SRow), e = .returned (.tuple #[.slice A R.length c, .nilIface]) ∧ R.map (·.i) = (if pt = pp then [] else [pp]) ∧ (0 < R.length → ∃ g, A = some ⟨g, 0, none⟩ ∧ g < w'.heap.size ∧ ∀ k (hk : k < R.length), w'.rangeAt g (k * 22) R[k].vals) ∧ Below w.heap.size w w') := Lib.hid fun hne hvid X tv hX => by
      refine (in_st hX pt hptL (by rw [HLl.out]; omega) Hgo.out.2.1 hko1.1 hko1.2.1 now hko1.2.2 (by omega) (carry_ok t1) Hgo.out.2.2).mono ?_
      rintro e w' ⟨ov, R, tb', rfl, hR, hs⟩
      obtain ⟨A, c, eo, hro⟩ := out_rows (hs.head : World.ownsRow w' 0 65 22 ov R.length (srows R))
      subst eo
      refine ⟨A, c, R, rfl, ?_, hro, hs.below⟩
      have h := hlaw hne hvid
      rw [← h, ← e1, ← hR, List.map_map]
      rfl
    have HVid : Hid (∀ X tv, St w.heap.size w X (brd Bp T kt sv tv L es (slI 4 tg2 (tagv (carryM x2).tags) :: bk PB 58 ((carryM x2).vals tg2) :: slI 4 tg (tagv (carryM t1).tags) :: bk PA 58 ((carryM t1).vals tg) :: bk w.heap.size 52 t1.vals :: [])) → Calls Try.prog 32 #[.pointer (some ⟨Bp, 0, none⟩), .int .i64 (pt : Int), .agg ((carryM t1).vals tg).toArray] X fun e w' => e = .returned (.int .i64 (vidM plainP (carryM t1).tags)) ∧ Below X.heap.size X w') := Lib.hid fun X tv hX => by
      have h := vid_any pt hptL (carryM t1) tg X hX.ports (hX.slOf 7 rfl) (by rw [HLl.out]; omega) (by have := (Hgo.out.2.1 _ (List.getElem_mem hptL)).few; omega)
      rw [e1] at h
      exact h
    have E2 : ∀ (W : World), (binOp .eql 30 (.agg (carryM t1).src.vals.toArray) (.agg (carryM t1).dst.vals.toArray)).run Try.prog W = .ok (.bool (decide ((carryM t1).src = (carryM t1).dst))) W := fun W => ad_eq _ _ W
    have G2 : ∀ (x y : Operand) (W : World), (eqGuard .eql 30 x y (.agg (carryM t1).src.vals.toArray) (.agg (carryM t1).dst.vals.toArray)).run Try.prog W = .ok () W := fun x y W => ad_guard .eql _ _ x y W
    have HSr := Lib.hid (fm_src (H8.out.at 8 rfl : Blk W9 PA 58 ((carryM t1).vals tg)).box)
    have HDs := Lib.hid (fm_dst (H8.out.at 8 rfl : Blk W9 PA 58 ((carryM t1).vals tg)).box)
    clear e1 e2 hK1 hlaw hko1 HPat Hgo HL hpp' hpt'
    by_cases hsd : (carryM t1).src = (carryM t1).dst
    · have hd : decide ((carryM t1).src = (carryM t1).dst) = true := decide_eq_true hsd
      rw [hd] at E2
      clear hsd hd HIn2
      go_wp2_with (first
        | ((with_reducible refine wpList_load_rng (ty := 30) (b := ?b22) (o := ?o22) (ds := ?ds22) (carryM t1).src.vals ?hx22 ?hB22 ?hu22 ?hd22 ?hi22 ?hk22)
           case hx22 => rfl
           case hB22 => exact HSr.out
           case hu22 => exact Try.underlying30
           case hd22 => rfl
           case hi22 => exact info30)
        | ((with_reducible refine wpList_load_rng (ty := 30) (b := ?b23) (o := ?o23) (ds := ?ds23) (carryM t1).dst.vals ?hx23 ?hB23 ?hu23 ?hd23 ?hi23 ?hk23)
           case hx23 => rfl
           case hB23 => exact HDs.out
           case hu23 => exact Try.underlying30
           case hd23 => rfl
           case hi23 => exact info30)
        )
      go_ret
      exact ⟨rfl, H8.out.below⟩
    have hd : decide ((carryM t1).src = (carryM t1).dst) = false := decide_eq_false hsd
    rw [hd] at E2
    have Hsd := Lib.hid hsd
    clear hsd hd
    by_cases hv : vidM plainP (carryM t1).tags = 0
    · rw [hv] at HVid
      go_wp2_with (first
        | ((with_reducible refine wpList_load_rng (ty := 30) (b := ?b24) (o := ?o24) (ds := ?ds24) (carryM t1).src.vals ?hx24 ?hB24 ?hu24 ?hd24 ?hi24 ?hk24)
           case hx24 => rfl
           case hB24 => exact HSr.out
           case hu24 => exact Try.underlying30
           case hd24 => rfl
           case hi24 => exact info30)
        | ((with_reducible refine wpList_load_rng (ty := 30) (b := ?b25) (o := ?o25) (ds := ?ds25) (carryM t1).dst.vals ?hx25 ?hB25 ?hu25 ?hd25 ?hi25 ?hk25)
           case hx25 => rfl
           case hB25 => exact HDs.out
           case hu25 => exact Try.underlying30
           case hd25 => rfl
           case hi25 => exact info30)
        | ((with_reducible refine wpList_load_rngG (ty := 58) (b := ?b26) (o := ?o26) (ds := ?ds26) ((carryM t1).vals tg) ?hg26 ?hx26 ?hB26 ?hu26 ?hd26 ?hi26 ?hk26)
           case hg26 => rfl
           case hx26 => rfl
           case hB26 => exact (Blk.box (H8.out.at 8 rfl)).range
           case hu26 => exact Try.underlying58
           case hd26 => rfl
           case hi26 => exact info58)
        | ((with_reducible refine (HVid.out _ _ H8.out).mono ?_)
           rintro e w10 ⟨rfl, hb10⟩
           skip)
        )
      go_ret
      exact ⟨rfl, (H8.out.ext hb10).below⟩
    have hv0 : (vidM plainP (carryM t1).tags == 0) = false := beq_eq_false_iff_ne.2 hv
    have HIn3 := Lib.hid (HIn2.out Hsd.out hv)
    clear hv HIn2
    generalize vidM plainP (carryM t1).tags = vid at *
    go_upto_region 14 with (first
      | ((with_reducible refine wpList_load_rng (ty := 30) (b := ?b28) (o := ?o28) (ds := ?ds28) (carryM t1).src.vals ?hx28 ?hB28 ?hu28 ?hd28 ?hi28 ?hk28)
         case hx28 => rfl
         case hB28 => exact HSr.out
         case hu28 => exact Try.underlying30
         case hd28 => rfl
         case hi28 => exact info30)
      | ((with_reducible refine wpList_load_rng (ty := 30) (b := ?b29) (o := ?o29) (ds := ?ds29) (carryM t1).dst.vals ?hx29 ?hB29 ?hu29 ?hd29 ?hi29 ?hk29)
         case hx29 => rfl
         case hB29 => exact HDs.out
         case hu29 => exact Try.underlying30
         case hd29 => rfl
         case hi29 => exact info30)
      | ((with_reducible refine wpList_load_rngG (ty := 58) (b := ?b30) (o := ?o30) (ds := ?ds30) ((carryM t1).vals tg) ?hg30 ?hx30 ?hB30 ?hu30 ?hd30 ?hi30 ?hk30)
         case hg30 => rfl
         case hx30 => rfl
         case hB30 => exact (Blk.box (H8.out.at 8 rfl)).range
         case hu30 => exact Try.underlying58
         case hd30 => rfl
         case hi30 => exact info58)
      | ((with_reducible refine (HVid.out _ _ H8.out).mono ?_)
         rintro e w10 ⟨rfl, hb10⟩
         have H10 := Lib.hid (H8.out.ext hb10)
         clear hb10 H8 HVid)
      )
    clear E2 G2 HSr HDs
    go_upto_region 17 with (first
      | ((with_reducible refine wpList_load_box (ty := 58) (b := ?b32) (ds := ?ds32) ((carryM x2).vals tg2) ?hx32 ?hB32 ?hu32 ?hd32 ?hi32 ?hk32)
         case hx32 => rfl
         case hB32 => exact (Blk.box (H10.out.at 6 rfl))
         case hu32 => exact Try.underlying58
         case hd32 => rfl
         case hi32 => exact info58)
      | ((with_reducible refine (HIn1.out _ _ H10.out).mono ?_)
         rintro e w11 ⟨ov1, tb1, rfl, h11⟩
         have H11 := Lib.hid h11
         clear h11 H10 HIn1)
      )
    go_upto_region 20 with (first
      | ((with_reducible refine wpList_load_box (ty := 58) (b := ?b34) (ds := ?ds34) ((carryM t1).vals tg) ?hx34 ?hB34 ?hu34 ?hd34 ?hi34 ?hk34)
         case hx34 => rfl
         case hB34 => exact (Blk.box (H11.out.at 8 rfl))
         case hu34 => exact Try.underlying58
         case hd34 => rfl
         case hi34 => exact info58)
      | ((with_reducible refine (HIn3.out _ _ H11.out).mono ?_)
         rintro e w12 ⟨A12, c12, R, rfl, hR, hro, hb12⟩
         have HR := Lib.hid hR
         have Hro := Lib.hid hro
         have HB12 := Lib.hid hb12
         clear hR hro hb12 H11 HIn3)
      )
    by_cases hpe : pt = pp
    · have hR := HR.out
      rw [if_pos hpe] at hR
      obtain rfl : R = [] := List.map_eq_nil_iff.1 hR
      have hpe' : ((pt : Int) == (pp : Int)) = true := beq_iff_eq.2 (by omega)
      have hpe2 : (pt : Int) = (pp : Int) := by omega
      clear hR HR Hro
      simp only [List.length_nil] at *
      go_wp2_with fail
      go_ret
      exact ⟨rfl, HB12.out⟩
    · have hR := HR.out
      rw [if_neg hpe] at hR
      obtain ⟨r, rfl⟩ : ∃ r, R = [r] := by
        cases R with
        | nil => cases hR
        | cons r R => cases R with
          | nil => exact ⟨r, rfl⟩
          | cons r2 R => exact absurd (congrArg List.length hR) (by simp)
      have hri : r.i = pp := by simpa using hR
      obtain ⟨g, rfl, lg, hk⟩ := Hro.out (by simp)
      have c0 : w12.cell? ⟨g, 0, none⟩ = some (.int .i64 (r.i : Int)) := hk 0 (by simp) 0 _ rfl
      rw [hri] at c0
      have hpe' : ((pt : Int) == (pp : Int)) = false := beq_eq_false_iff_ne.2 (by omega)
      have hpe2 : ¬ pt = pp := hpe
      clear hR HR Hro hk hri
      simp only [List.length_cons, List.length_nil] at *
      go_wp2_with fail
      go_ret
      exact ⟨rfl, HB12.out⟩
end Go.Proofs.Ytoenlcmngdpkmaa

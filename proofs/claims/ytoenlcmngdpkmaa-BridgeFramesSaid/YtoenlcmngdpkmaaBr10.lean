/- A trip's frame. -/
import Derived.Test.YtoenlcmngdpkmaaBr9
namespace Go.Proofs.Ytoenlcmngdpkmaa
open Go.RowKit
/-- A whole store, as an operation. -/
theorem oper_store_blk {P : Program} {ty : TypeId} {p q : Tmp} {t' : TypeId} {pos : String} {after : Array Edge} {gd : Option (Nat × Bool)} {a : Act} {w : World} {K : Act → World → Prop} {Q : Exit → Act → World → Prop} {b o : Nat} {t : TypeId} (L cs : List Value)
    (hx : a.eval (.tmp p) = .pointer (some ⟨b, o, none⟩)) (hy : (a.eval (.tmp q)).cells = cs.toArray) (hB : Blk w b t L) (ho : o + cs.length ≤ L.length) (hi : (P.info? ty).map (·.size) = some cs.length) (h1 : ∀ v ∈ cs, v.oneCell' = true)
    (h : ∀ W, Blk W b t (L.take o ++ (cs ++ L.drop (o + cs.length))) → Only b w W → K a W) :
    Oper.wp P ⟨none, .store ty (.tmp p) (.tmp q), t', pos, after, gd⟩ a w K Q := by
  have H := h _ (hB.set cs o ho) (Only.setCells cs o ⟨rfl, rfl, rfl, rfl, fun _ _ => rfl⟩)
  unfold Oper.wp execOp
  simp only [hx, Instr.storeAt, Instr.sureAddr, Sem.run_bind, Sem.run_pure, Result.andThen_ok, run_storeVar_any w b o ty _ cs hy (hB.box.there o ho) hi h1]
  exact H
def Fm0 (x : Trp) : Fm := ⟨toM (pickN x.dst 60) x.many, adOf (pickN x.src 60), [], bodyM⟩
set_option maxRecDepth 100000 in
set_option maxHeartbeats 4000000 in
theorem carried_any (x : Trp) (w : World) :
    Calls Try.prog 31 #[.agg x.vals.toArray] w fun e w' => ∃ tv, e = .returned (.agg ((carryM x).vals tv).toArray) ∧ St w.heap.size w w' [slI 4 tv (tagv (carryM x).tags)] := by
  have h0 := (St.init w).alloc2 x.vals zFm 52 58
  have H := Lib.hid h0
  have HA1 : Hid (∀ W, Calls Try.prog 18 #[.int .i64 x.dst] W fun e w' => e = .returned (.agg (adOf (pickN x.dst 60)).vals.toArray) ∧ Below W.heap.size W w') := Lib.hid fun W => address_any x.dst W
  have HA2 : Hid (∀ W, Calls Try.prog 18 #[.int .i64 x.src] W fun e w' => e = .returned (.agg (adOf (pickN x.src 60)).vals.toArray) ∧ Below W.heap.size W w') := Lib.hid fun W => address_any x.src W
  have HP : Hid (∀ W, Calls Try.prog 16 #[.int .i64 x.vid, .int .i64 4] W fun e w' => e = .returned (.int .i64 (pickN x.vid 4 : Nat)) ∧ W = w') := Lib.hid fun W => pick_any x.vid 4 W (by omega) (by omega)
  clear h0
  go_enter Try.func31, Try.ntmps31
  go_upto_region 1 with (fail)
  rw [show (#[.int .u8 0, .int .u8 0, .int .u8 0, .int .u8 0, .int .u8 0, .int .u8 0, .int .u8 0, .int .u8 0, .int .u8 0, .int .u8 0, .int .u8 0, .int .u8 0, .slice none 0 0, .int .i64 0, .int .i64 0, .int .i64 0, .int .i64 0, .int .i64 0, .int .i64 0, .int .i64 0, .string ⟨#[]⟩] : Array Value) = zFm.toArray from rfl]
  generalize (w.alloc (.cells x.vals.toArray 52)).alloc (.cells zFm.toArray 58) = W1 at *
  go_cut [3] (fun p wx => ∃ PA, p = .pointer (some ⟨PA, 0, none⟩) ∧ Hid (St w.heap.size w wx [bk PA 58 (Fm.vals ⟨adOf (pickN x.dst 60), adOf (pickN x.src 60), [], bodyM⟩ (.slice none 0 0)), bk (w.heap.size + 1) 58 zFm, bk w.heap.size 52 x.vals]))
  case first =>
    have hX : Blk W1 w.heap.size 52 x.vals := H.out.at 1 rfl
    have c2 : ∀ X, Fr [] W1 X → X.cell? ⟨w.heap.size, 2, none⟩ = some (.int .i64 x.dst) := fun X hx => (hx.blk hX (fun h => by cases h)).box.cell 2
    have c1 : ∀ X, Fr [] W1 X → X.cell? ⟨w.heap.size, 1, none⟩ = some (.int .i64 x.src) := fun X hx => (hx.blk hX (fun h => by cases h)).box.cell 1
    have hdr : Fr [] W1 W1.drew := ⟨rfl, rfl, rfl, Nat.le_refl _, fun _ _ _ => rfl⟩
    have H := Lib.hid H.out.drew
    clear hX
    refine wp_region_last (fun X => Fr [] W1 X) 8 (by kernel_rfl) hdr (fun hHeld => ?_)
    refine wpAnyG_take 0 (oi := ?o2) ?v2 ?hi2 (by kernel_rfl) (by kernel_rfl) (by decide) (by kernel_rfl) (by kernel_rfl) ?hq2 ?hg2 ?hy2 (by assumption) ?hk2
    case hi2 => (simp only [List.getElem?_toArray, List.getElem?_cons_succ, List.getElem?_cons_zero]; rfl)
    case hq2 => exact fun _ _ _ h => h
    case hg2 => rfl
    case hy2 => (intro X hX; go_simp; try with_reducible rfl)
    try simp only [Act.put, List.setIfInBounds_toArray, List.set_cons_zero, List.set_cons_succ]
    refine wpAnyG_take 1 (oi := ?o3) ?v3 ?hi3 (by kernel_rfl) (by kernel_rfl) (by decide) (by kernel_rfl) (by kernel_rfl) ?hq3 ?hg3 ?hy3 (by assumption) ?hk3
    case hi3 => (simp only [List.getElem?_toArray, List.getElem?_cons_succ, List.getElem?_cons_zero]; rfl)
    case hq3 => exact fun _ _ _ h => h
    case hg3 => rfl
    case hy3 => (intro X hX; go_simp; try with_reducible rfl)
    try simp only [Act.put, List.setIfInBounds_toArray, List.set_cons_zero, List.set_cons_succ]
    refine wpAnyG_take 3 (oi := ?o4) ?v4 ?hi4 (by kernel_rfl) (by kernel_rfl) (by decide) (by kernel_rfl) (by kernel_rfl) ?hq4 ?hg4 ?hy4 (by assumption) ?hk4
    case hi4 => (simp only [List.getElem?_toArray, List.getElem?_cons_succ, List.getElem?_cons_zero]; rfl)
    case hq4 => exact fun _ _ _ h => h
    case hg4 => rfl
    case hy4 => (intro X hX; go_simp; try with_reducible rfl)
    try simp only [Act.put, List.setIfInBounds_toArray, List.set_cons_zero, List.set_cons_succ]
    refine wpAnyG_take 4 (oi := ?o5) ?v5 ?hi5 (by kernel_rfl) (by kernel_rfl) (by decide) (by kernel_rfl) (by kernel_rfl) ?hq5 ?hg5 ?hy5 (by assumption) ?hk5
    case hi5 => (simp only [List.getElem?_toArray, List.getElem?_cons_succ, List.getElem?_cons_zero]; rfl)
    case hq5 => exact fun _ _ _ h => h
    case hg5 => rfl
    case hy5 => (intro X hX; go_simp; try with_reducible rfl)
    try simp only [Act.put, List.setIfInBounds_toArray, List.set_cons_zero, List.set_cons_succ]
    clear hdr c1 c2
    refine wpAnyG_two 2 7 (o := ?oq1) (u := ?uq1) (by kernel_rfl) ?hiq1 ?hjq1 ?hgq1 ?huq1 ?haq1 ?hbq1
    case hiq1 => (simp only [List.getElem?_toArray, List.getElem?_cons_succ, List.getElem?_cons_zero]; rfl)
    case hjq1 => (simp only [List.getElem?_toArray, List.getElem?_cons_succ, List.getElem?_cons_zero]; rfl)
    case hgq1 => rfl
    case huq1 => rfl
    case haq1 =>
      intro K hK
      go_simp
      refine (HA1.out _).mono ?_
      rintro e X4 ⟨rfl, hb⟩
      refine hK.out _ _ (fun _ => hHeld.ext hb) (fun hH => ?_)
      have hHeld := hH (by decide)
      have H := Lib.hid (H.out.ext hb)
      clear hK K hH hb
      try simp only [Act.put, List.setIfInBounds_toArray, List.set_cons_zero, List.set_cons_succ]
      refine wpAnyG_two 5 7 (o := ?oq2) (u := ?uq2) (by kernel_rfl) ?hiq2 ?hjq2 ?hgq2 ?huq2 ?haq2 ?hbq2
      case hiq2 => (simp only [List.getElem?_toArray, List.getElem?_cons_succ, List.getElem?_cons_zero]; rfl)
      case hjq2 => (simp only [List.getElem?_toArray, List.getElem?_cons_succ, List.getElem?_cons_zero]; rfl)
      case hgq2 => rfl
      case huq2 => rfl
      case haq2 =>
        intro K hK
        go_simp
        refine (HA2.out _).mono ?_
        rintro e X2 ⟨rfl, hb⟩
        refine hK.out _ _ (fun _ => hHeld.ext hb) (fun hH => ?_)
        have hHeld := hH (by decide)
        have H := Lib.hid (H.out.ext hb)
        clear hK K hH hb
        try simp only [Act.put, List.setIfInBounds_toArray, List.set_cons_zero, List.set_cons_succ]
        refine wpAnyG_take 6 (oi := ?o6) ?v6 ?hi6 (by kernel_rfl) (by kernel_rfl) (by decide) (by kernel_rfl) (by kernel_rfl) ?hq6 ?hg6 ?hy6 (by assumption) ?hk6
        case hi6 => (simp only [List.getElem?_toArray, List.getElem?_cons_succ, List.getElem?_cons_zero]; rfl)
        case hq6 => exact fun _ _ _ h => h
        case hg6 => rfl
        case hy6 => (intro X hX; simp only [Ad.vals]; go_simp; try with_reducible rfl)
        try simp only [Act.put, List.setIfInBounds_toArray, List.set_cons_zero, List.set_cons_succ]
        refine wpAnyG_one 7 (o := ?o7) (by kernel_rfl) ?hi7 ?hg7 ?hk7
        case hi7 => (simp only [List.getElem?_toArray, List.getElem?_cons_succ, List.getElem?_cons_zero]; rfl)
        case hg7 => rfl
        intro K hK
        go_simp
        refine hK.out _ _ (fun _ => hHeld.ext ((Below.refl _ _).alloc (Nat.le_refl _) _)) (fun hH => ?_)
        have hHeld := hH (by decide)
        have H := Lib.hid (H.out.alloc zFm 58)
        clear hK K hH
        try simp only [Act.put, List.setIfInBounds_toArray, List.set_cons_zero, List.set_cons_succ]
        refine wpAnyG_one 8 (o := ?o8) (by kernel_rfl) ?hi8 ?hg8 ?hk8
        case hi8 => (simp only [List.getElem?_toArray, List.getElem?_cons_succ, List.getElem?_cons_zero]; rfl)
        case hg8 => rfl
        intro K hK
        refine oper_store_blk (ty := 58) (o := 0) (t := 58) zFm (Fm.vals ⟨adOf (pickN x.dst 60), adOf (pickN x.src 60), [], bodyM⟩ (.slice none 0 0)) (by rfl) (by rfl) (by exact H.out.at 0 rfl) (by exact Nat.le_refl _) info58 (Fm.one _ rfl) ?_
        intro W9 hB9 ho9
        refine hK.out _ _ (fun h => absurd rfl h) (fun _ => ?_)
        refine wpAnyG_done (by kernel_rfl) ?_ _
        have H := Lib.hid (H.out.sets hB9 ho9)
        clear hK K hHeld hB9 ho9
        go_wp2_with fail
        go_meet
        exact ⟨_, rfl, Lib.hid H.out⟩
      case hbq2 =>
        intro K hK
        go_simp
        refine hK.out _ _ (fun _ => hHeld.ext ((Below.refl _ _).alloc (Nat.le_refl _) _)) (fun hH => ?_)
        have hHeld := hH (by decide)
        have H := Lib.hid (H.out.alloc zFm 58)
        clear hK K hH
        try simp only [Act.put, List.setIfInBounds_toArray, List.set_cons_zero, List.set_cons_succ]
        refine wpAnyG_one 5 (o := ?o9) (by kernel_rfl) ?hi9 ?hg9 ?hk9
        case hi9 => (simp only [List.getElem?_toArray, List.getElem?_cons_succ, List.getElem?_cons_zero]; rfl)
        case hg9 => rfl
        intro K hK
        go_simp
        refine (HA2.out _).mono ?_
        rintro e X3 ⟨rfl, hb⟩
        refine hK.out _ _ (fun _ => hHeld.ext hb) (fun hH => ?_)
        have hHeld := hH (by decide)
        have H := Lib.hid (H.out.ext hb)
        clear hK K hH hb
        try simp only [Act.put, List.setIfInBounds_toArray, List.set_cons_zero, List.set_cons_succ]
        refine wpAnyG_take 6 (oi := ?o10) ?v10 ?hi10 (by kernel_rfl) (by kernel_rfl) (by decide) (by kernel_rfl) (by kernel_rfl) ?hq10 ?hg10 ?hy10 (by assumption) ?hk10
        case hi10 => (simp only [List.getElem?_toArray, List.getElem?_cons_succ, List.getElem?_cons_zero]; rfl)
        case hq10 => exact fun _ _ _ h => h
        case hg10 => rfl
        case hy10 => (intro X hX; simp only [Ad.vals]; go_simp; try with_reducible rfl)
        try simp only [Act.put, List.setIfInBounds_toArray, List.set_cons_zero, List.set_cons_succ]
        refine wpAnyG_one 8 (o := ?o11) (by kernel_rfl) ?hi11 ?hg11 ?hk11
        case hi11 => (simp only [List.getElem?_toArray, List.getElem?_cons_succ, List.getElem?_cons_zero]; rfl)
        case hg11 => rfl
        intro K hK
        refine oper_store_blk (ty := 58) (o := 0) (t := 58) zFm (Fm.vals ⟨adOf (pickN x.dst 60), adOf (pickN x.src 60), [], bodyM⟩ (.slice none 0 0)) (by rfl) (by rfl) (by exact H.out.at 0 rfl) (by exact Nat.le_refl _) info58 (Fm.one _ rfl) ?_
        intro W9 hB9 ho9
        refine hK.out _ _ (fun h => absurd rfl h) (fun _ => ?_)
        refine wpAnyG_done (by kernel_rfl) ?_ _
        have H := Lib.hid (H.out.sets hB9 ho9)
        clear hK K hHeld hB9 ho9
        go_wp2_with fail
        go_meet
        exact ⟨_, rfl, Lib.hid H.out⟩
    case hbq1 =>
      intro K hK
      go_simp
      refine hK.out _ _ (fun _ => hHeld.ext ((Below.refl _ _).alloc (Nat.le_refl _) _)) (fun hH => ?_)
      have hHeld := hH (by decide)
      have H := Lib.hid (H.out.alloc zFm 58)
      clear hK K hH
      try simp only [Act.put, List.setIfInBounds_toArray, List.set_cons_zero, List.set_cons_succ]
      refine wpAnyG_one 2 (o := ?o12) (by kernel_rfl) ?hi12 ?hg12 ?hk12
      case hi12 => (simp only [List.getElem?_toArray, List.getElem?_cons_succ, List.getElem?_cons_zero]; rfl)
      case hg12 => rfl
      intro K hK
      go_simp
      refine (HA1.out _).mono ?_
      rintro e X5 ⟨rfl, hb⟩
      refine hK.out _ _ (fun _ => hHeld.ext hb) (fun hH => ?_)
      have hHeld := hH (by decide)
      have H := Lib.hid (H.out.ext hb)
      clear hK K hH hb
      try simp only [Act.put, List.setIfInBounds_toArray, List.set_cons_zero, List.set_cons_succ]
      refine wpAnyG_one 5 (o := ?o13) (by kernel_rfl) ?hi13 ?hg13 ?hk13
      case hi13 => (simp only [List.getElem?_toArray, List.getElem?_cons_succ, List.getElem?_cons_zero]; rfl)
      case hg13 => rfl
      intro K hK
      go_simp
      refine (HA2.out _).mono ?_
      rintro e X6 ⟨rfl, hb⟩
      refine hK.out _ _ (fun _ => hHeld.ext hb) (fun hH => ?_)
      have hHeld := hH (by decide)
      have H := Lib.hid (H.out.ext hb)
      clear hK K hH hb
      try simp only [Act.put, List.setIfInBounds_toArray, List.set_cons_zero, List.set_cons_succ]
      refine wpAnyG_take 6 (oi := ?o14) ?v14 ?hi14 (by kernel_rfl) (by kernel_rfl) (by decide) (by kernel_rfl) (by kernel_rfl) ?hq14 ?hg14 ?hy14 (by assumption) ?hk14
      case hi14 => (simp only [List.getElem?_toArray, List.getElem?_cons_succ, List.getElem?_cons_zero]; rfl)
      case hq14 => exact fun _ _ _ h => h
      case hg14 => rfl
      case hy14 => (intro X hX; simp only [Ad.vals]; go_simp; try with_reducible rfl)
      try simp only [Act.put, List.setIfInBounds_toArray, List.set_cons_zero, List.set_cons_succ]
      refine wpAnyG_one 8 (o := ?o15) (by kernel_rfl) ?hi15 ?hg15 ?hk15
      case hi15 => (simp only [List.getElem?_toArray, List.getElem?_cons_succ, List.getElem?_cons_zero]; rfl)
      case hg15 => rfl
      intro K hK
      refine oper_store_blk (ty := 58) (o := 0) (t := 58) zFm (Fm.vals ⟨adOf (pickN x.dst 60), adOf (pickN x.src 60), [], bodyM⟩ (.slice none 0 0)) (by rfl) (by rfl) (by exact H.out.at 0 rfl) (by exact Nat.le_refl _) info58 (Fm.one _ rfl) ?_
      intro W9 hB9 ho9
      refine hK.out _ _ (fun h => absurd rfl h) (fun _ => ?_)
      refine wpAnyG_done (by kernel_rfl) ?_ _
      have H := Lib.hid (H.out.sets hB9 ho9)
      clear hK K hHeld hB9 ho9
      go_wp2_with fail
      go_meet
      exact ⟨_, rfl, Lib.hid H.out⟩
  case rest =>
    obtain ⟨PA, rfl, H4⟩ := hcut
    clear H
    generalize wc = W4 at *
    have HU : Hid (carryM x = ⟨toM (pickN x.dst 60) x.many, adOf (pickN x.src 60), if pickN x.vid 4 = 0 then [] else [⟨false, 3, false, (pickN x.vid 4 : Int) - 1⟩], bodyM⟩) := Lib.hid rfl
    have x5 : W4.cell? ⟨w.heap.size, 5, none⟩ = some (.bool x.many) := (H4.out.at 2 rfl).box.cell 5
    have x3 : W4.cell? ⟨w.heap.size, 3, none⟩ = some (.int .i64 x.vid) := (H4.out.at 2 rfl).box.cell 3
    have y0 : W4.cell? ⟨PA, 0, none⟩ = some (.int .u8 2) := (H4.out.at 0 rfl).box.cell 0
    have z0 : W4.frozen? ⟨PA, 0, none⟩ = false := (H4.out.at 0 rfl).box.frozen 0
    go_upto_if 13 with (fail)
    go_cut [] (fun wx => Hid (St w.heap.size w wx [bk PA 58 (Fm.vals ⟨toM (pickN x.dst 60) x.many, adOf (pickN x.src 60), [], bodyM⟩ (.slice none 0 0)), bk (w.heap.size + 1) 58 zFm, bk w.heap.size 52 x.vals]))
    case first =>
      cases hm : x.many
      · rw [hm] at x5
        go_wp2_with fail
        go_meet
        rw [hm]
        exact Lib.hid H4.out
      · rw [hm] at x5
        have hor : bits .or .u8 2 1 = 3 := by decide
        have h5 := H4.out.set 0 (.int .u8 3) (by rw [Fm.len]; decide)
        have H5 := Lib.hid h5
        clear h5
        go_wp2_with fail
        go_meet
        rw [hm]
        exact Lib.hid H5.out
    case rest =>
      clear H4 x5 x3 y0 z0
      have H5 := hcut
      clear hcut
      generalize wc = W5 at *
      have x3 : W5.cell? ⟨w.heap.size, 3, none⟩ = some (.int .i64 x.vid) := (H5.out.at 2 rfl).box.cell 3
      have y12 : W5.cell? ⟨PA, 12, none⟩ = some (.slice none 0 0) := (H5.out.at 0 rfl).box.cell 12
      have z12 : W5.frozen? ⟨PA, 12, none⟩ = false := (H5.out.at 0 rfl).box.frozen 12
      have lPA := (H5.out.at 0 rfl).lt
      generalize toM (pickN x.dst 60) x.many = dst at *
      generalize adOf (pickN x.src 60) = src at *
      have hp4 := pickN_lt x.vid 4 (by omega)
      generalize hpv : pickN x.vid 4 = pv at *
      have Hpv := Lib.hid hpv
      clear hpv
      by_cases h0 : pv = 0
      · subst h0
        have HC : Hid (carryM x = ⟨dst, src, [], bodyM⟩) := Lib.hid HU.out
        have HF9 := Lib.hid (Blk.box (H5.out.at 0 rfl))
        have HR9 := Lib.hid (H5.out.at 1 rfl)
        go_wp2_with (first
          | ((with_reducible refine (HP.out _).mono ?_)
             rintro e w6 ⟨rfl, rfl⟩
             skip)
          | ((with_reducible refine wpList_load_box (ty := 58) (b := ?b17) (ds := ?ds17) (Fm.vals ⟨dst, src, [], bodyM⟩ (.slice none 0 0)) ?hx17 ?hB17 ?hu17 ?hd17 ?hi17 ?hk17)
             case hx17 => rfl
             case hB17 => exact HF9.out
             case hu17 => exact Try.underlying58
             case hd17 => rfl
             case hi17 => exact info58)
          | ((with_reducible refine wpList_store_blk (ty := 58) (b := w.heap.size + 1) (o := 0) (t := 58) zFm (Fm.vals ⟨dst, src, [], bodyM⟩ (.slice none 0 0)) ?hxs ?hys ?hBs ?hos ?his ?h1s ?hks)
             case hxs => rfl
             case hys => rfl
             case hBs => exact HR9.out
             case hos => exact Nat.le_refl _
             case his => exact info58
             case h1s => exact Fm.one _ rfl
             intro W10 hB10 ho10))
        have h11 := (H5.out.pull 1 rfl).sets hB10 ho10
        have hr10 := (Blk.box hB10).range
        have h12 := h11.add (k := slI 4 (.slice none 0 0) (tagv (carryM x).tags)) (Below.refl _ _) (by
          rw [HC.out]
          exact slat_nil _ 4) (fun g hg => by cases hg)
        refine ret_cell (cs := Fm.vals ⟨dst, src, [], bodyM⟩ (.slice none 0 0)) rfl rfl hr10 Try.underlying58 rfl info58 rfl ⟨.slice none 0 0, by rw [HC.out], ?_⟩
        exact h12.sub (by simp)
      · have HC : Hid (carryM x = ⟨dst, src, [⟨false, 3, false, (pv : Int) - 1⟩], bodyM⟩) := Lib.hid (by rw [HU.out, if_neg h0])
        have hpos : (0 : Int) < (pv : Int) := by omega
        go_upto_region 7 with (first
          | ((with_reducible refine (HP.out _).mono ?_)
             rintro e w6 ⟨rfl, rfl⟩
             skip)
          | ((with_reducible refine wpList_build1 (Tg.vals ⟨false, 3, false, (pv : Int) - 1⟩) elemTag ?hxb rfl (by decide) ?_)
             case hxb => rfl
             intro W8 hB8 hb8 lW8
             have d12 := laterc y12 hb8 lPA
             have e12 : W8.frozen? ⟨PA, 12, none⟩ = false := (hb8.frozen (p := ⟨PA, 12, none⟩) lPA).trans z12
             have h8 := H5.out.add (k := bk W5.heap.size 75 (Tg.vals ⟨false, 3, false, (pv : Int) - 1⟩)) hb8 hB8 (fun g hg => by rw [List.mem_singleton.1 hg]; exact Nat.le_refl _)
             have H8 := Lib.hid h8
             clear h8 hB8 hb8 y12 z12
             ))
        have h9 := (H8.out.pull 1 rfl).set 12 (.slice (some ⟨W5.heap.size, 0, none⟩) 1 1) (by simp [Fm.len])
        have H9 : Hid (St w.heap.size w _ (bk PA 58 (Fm.vals ⟨dst, src, [⟨false, 3, false, (pv : Int) - 1⟩], bodyM⟩ (.slice (some ⟨W5.heap.size, 0, none⟩) 1 1)) :: bk W5.heap.size 75 (Tg.vals ⟨false, 3, false, (pv : Int) - 1⟩) :: bk (w.heap.size + 1) 58 zFm :: bk w.heap.size 52 x.vals :: [])) := Lib.hid h9
        clear h9 H8 H5 d12 e12
        generalize World.setCell _ _ _ = W9 at *
        generalize W5.heap.size = QT at *
        have HF9 := Lib.hid (Blk.box (H9.out.at 0 rfl))
        have HR9 := Lib.hid (H9.out.at 2 rfl)
        go_wp2_with (first
          | ((with_reducible refine wpList_load_box (ty := 58) (b := ?b19) (ds := ?ds19) (Fm.vals ⟨dst, src, [⟨false, 3, false, (pv : Int) - 1⟩], bodyM⟩ (.slice (some ⟨QT, 0, none⟩) 1 1)) ?hx19 ?hB19 ?hu19 ?hd19 ?hi19 ?hk19)
             case hx19 => rfl
             case hB19 => exact HF9.out
             case hu19 => exact Try.underlying58
             case hd19 => rfl
             case hi19 => exact info58)
          | ((with_reducible refine wpList_store_blk (ty := 58) (b := w.heap.size + 1) (o := 0) (t := 58) zFm (Fm.vals ⟨dst, src, [⟨false, 3, false, (pv : Int) - 1⟩], bodyM⟩ (.slice (some ⟨QT, 0, none⟩) 1 1)) ?hxt ?hyt ?hBt ?hot ?hit ?h1t ?hkt)
             case hxt => rfl
             case hyt => rfl
             case hBt => exact HR9.out
             case hot => exact Nat.le_refl _
             case hit => exact info58
             case h1t => exact Fm.one _ rfl
             intro W10 hB10 ho10))
        have h11 := (H9.out.pull 2 rfl).sets hB10 ho10
        have hr10 := (Blk.box hB10).range
        have h12 := (h11.pull 2 rfl).as (k' := slI 4 (.slice (some ⟨QT, 0, none⟩) 1 1) (tagv (carryM x).tags)) (by
          rw [HC.out]
          exact slat_one 4 (h11.at 2 rfl)) (fun g hg => hg)
        refine ret_cell (cs := Fm.vals ⟨dst, src, [⟨false, 3, false, (pv : Int) - 1⟩], bodyM⟩ (.slice (some ⟨QT, 0, none⟩) 1 1)) rfl rfl hr10 Try.underlying58 rfl info58 rfl ⟨.slice (some ⟨QT, 0, none⟩) 1 1, by rw [HC.out], ?_⟩
        exact h12.sub (by simp)
end Go.Proofs.Ytoenlcmngdpkmaa

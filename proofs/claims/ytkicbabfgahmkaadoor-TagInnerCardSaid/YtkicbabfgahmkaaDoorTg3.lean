/- tag: Parse. -/
import Derived.Test.YtkicbabfgahmkaaDoorTg2
import Derived.Test.YtkicbabfgahmkaaDoorQuietTail
import Derived.Test.YtkicbabfgahmkaaDoorHeld
import Derived.StillTailTactics
import Derived.Deep.DeepMust
set_option linter.all false
namespace Go.Proofs.YtkicbabfgahmkaaDoor
open Go.RowKit
def tkV : Option Tk → Value
  | some t => .tuple #[.agg t.vals.toArray, .nilIface]
  | none => .tuple #[.agg (Tk.vals ⟨false, 0, false, 0⟩).toArray, .iface 80 (.int .i64 3)]
theorem cut_len (s : List UInt8) (c : UInt8) : (Lib.cut s [c]).1.length ≤ s.length ∧ (Lib.cut s [c]).2.1.length ≤ s.length := by
  unfold Lib.cut
  split
  · simp only [List.length_take, List.length_drop]; omega
  · simp
set_option maxRecDepth 100000 in
set_option maxHeartbeats 4000000 in
theorem tkParse_any (s : List UInt8) (hs : s.length ≤ 1000000) (w : World) (hV : Vars w) :
    Calls Tryd.prog 27 #[.string ⟨s.toArray⟩] w fun e w' => e = .returned (tkV (Tk.ofText s)) ∧ Below w.heap.size w w' := by
  have H0 := Lib.hid ((St.init w).alloc zTk 39)
  have HV := Lib.hid (hV.ext H0.out.below)
  have hl := cut_len s 46
  have HC := fun W h => Lib.hid (cut_v s 46 hs W h)
  have hO : Tk.ofText s = match Lib.atoiAll (Lib.cut s [46]).2.1 with
    | .ok n => if (Lib.cut s [46]).2.2 = true ∧ headOk (Lib.cut s [46]).1 = true then
        if (Tk.raw (Lib.cut s [46]).1 n).okB = true ∧ (Tk.raw (Lib.cut s [46]).1 n).text = s then some (Tk.raw (Lib.cut s [46]).1 n) else none
      else none
    | _ => none := rfl
  generalize Tk.ofText s = O at *
  generalize (Lib.cut s [46]).1 = h at *
  generalize (Lib.cut s [46]).2.1 = v at *
  generalize (Lib.cut s [46]).2.2 = ok at *
  obtain ⟨hl1, hl2⟩ := hl
  have hl1 : h.length ≤ 1000000 := by omega
  have hl2 : v.length ≤ 1000000 := by omega
  have Hs := Lib.hid hs
  clear hs hV
  cases hat : Lib.atoiAll v with
  | ok n =>
    have HI := Lib.hid (atoi_ok v hl2 n hat)
    rw [hat] at hO
    dsimp only at hO
    clear hat
    cases ok
    · have hn : O = none := by rw [hO, if_neg (fun h => absurd h.1 (by decide))]
      go_enter Tryd.func27, Tryd.ntmps27
      go_upto_region 1 with (fail)
      generalize World.alloc _ _ = w1 at *
      have HC1 := HC w1 HV.out.m
      go_upto_region 3 with (first
        | ((with_reducible refine HC1.out.mono ?_)
           rintro e w2 ⟨rfl, hb2⟩
           have H2 := Lib.hid (H0.out.ext hb2)
           have V2 := Lib.hid (HV.out.ext hb2)
           clear hb2)
        | ((with_reducible refine (HI.out w2).mono ?_)
           rintro e w3 ⟨rfl, hb3⟩
           have H3 := Lib.hid (H2.out.ext hb3)
           have V3 := Lib.hid (V2.out.ext hb3)
           clear hb3))
      have HOn : Hid (O = none) := Lib.hid (hn)
      have B9 := Lib.hid (H3.out.at 0 rfl)
      clear hO
      go_wp2_with (first
        | (with_reducible refine wpList_buildA (t := 39) [] (Tk.vals ⟨false, 0, false, 0⟩) (by with_unfolding_all rfl) tk_built0 ?_)
        | (with_reducible refine wpList_store_blk (ty := 39) (o := 0) _ (Tk.vals ⟨false, 0, false, 0⟩) (by with_unfolding_all rfl) (by with_unfolding_all rfl) B9.out (by with_unfolding_all exact Nat.le_refl _) (by with_unfolding_all exact info39) (Tk.one _) (fun W9 hBW9 hoW9 => ?_)))
      have h9 := (H3.out.pull 0 rfl).sets (L' := Tk.vals ⟨false, 0, false, 0⟩) hBW9 hoW9
      exact ret_cell2 (cs := Tk.vals ⟨false, 0, false, 0⟩) Tryd.results27 (by rfl) (by rfl) (Blk.box h9.head).range Tryd.underlying39 rfl info39 rfl ⟨by first | rfl | (rw [HOn.out]; rfl), h9.below⟩
    by_cases hlen : h.length < 2
    · have hn : O = none := by
        rw [hO, if_neg (fun k => ?_)]
        have k2 := k.2
        unfold headOk at k2
        rw [decide_eq_false (by omega)] at k2
        simp at k2
      have hlen2 : (h.length : Int) < 2 := by omega
      go_enter Tryd.func27, Tryd.ntmps27
      go_upto_region 1 with (fail)
      generalize World.alloc _ _ = w1 at *
      have HC1 := HC w1 HV.out.m
      go_upto_region 3 with (first
        | ((with_reducible refine HC1.out.mono ?_)
           rintro e w2 ⟨rfl, hb2⟩
           have H2 := Lib.hid (H0.out.ext hb2)
           have V2 := Lib.hid (HV.out.ext hb2)
           clear hb2)
        | ((with_reducible refine (HI.out w2).mono ?_)
           rintro e w3 ⟨rfl, hb3⟩
           have H3 := Lib.hid (H2.out.ext hb3)
           have V3 := Lib.hid (V2.out.ext hb3)
           clear hb3))
      have HOn : Hid (O = none) := Lib.hid (hn)
      have B9 := Lib.hid (H3.out.at 0 rfl)
      clear hO
      go_wp2_with (first
        | (with_reducible refine wpList_buildA (t := 39) [] (Tk.vals ⟨false, 0, false, 0⟩) (by with_unfolding_all rfl) tk_built0 ?_)
        | (with_reducible refine wpList_store_blk (ty := 39) (o := 0) _ (Tk.vals ⟨false, 0, false, 0⟩) (by with_unfolding_all rfl) (by with_unfolding_all rfl) B9.out (by with_unfolding_all exact Nat.le_refl _) (by with_unfolding_all exact info39) (Tk.one _) (fun W9 hBW9 hoW9 => ?_)))
      have h9 := (H3.out.pull 0 rfl).sets (L' := Tk.vals ⟨false, 0, false, 0⟩) hBW9 hoW9
      exact ret_cell2 (cs := Tk.vals ⟨false, 0, false, 0⟩) Tryd.results27 (by rfl) (by rfl) (Blk.box h9.head).range Tryd.underlying39 rfl info39 rfl ⟨by first | rfl | (rw [HOn.out]; rfl), h9.below⟩
    match h, hl1, hlen with
    | [], _, hx => exact absurd (by simp) hx
    | [_], _, hx => exact absurd (by simp) hx
    | c0 :: c1 :: r, hl1, hlen =>
      clear hlen hl1
      by_cases e0 : c0 = 115
      · subst e0
        go_enter Tryd.func27, Tryd.ntmps27
        go_upto_region 1 with (fail)
        generalize World.alloc _ _ = w1 at *
        have HC1 := HC w1 HV.out.m
        go_upto_region 3 with (first
          | ((with_reducible refine HC1.out.mono ?_)
             rintro e w2 ⟨rfl, hb2⟩
             have H2 := Lib.hid (H0.out.ext hb2)
             have V2 := Lib.hid (HV.out.ext hb2)
             clear hb2)
          | ((with_reducible refine (HI.out w2).mono ?_)
             rintro e w3 ⟨rfl, hb3⟩
             have H3 := Lib.hid (H2.out.ext hb3)
             have V3 := Lib.hid (V2.out.ext hb3)
             clear hb3))
        have h2 : ¬ ((r.length : Int) + 1 + 1 < 2) := by omega
        have hb0 : (0 : Int) < (r.length : Int) + 1 + 1 := by omega
        go_upto_region 5 with (fail)
        have hc1 := c1.toNat_lt
        have hb0 : (0 : Int) < (r.length : Int) + 1 + 1 := by omega
        have hb1 : (1 : Int) < (r.length : Int) + 1 + 1 := by omega
        have hb2 : (2 : Int) ≤ (r.length : Int) + 1 + 1 := by omega
        refine wp_region_last (fun _ => True) 13 (by kernel_rfl) trivial (fun hHeld => ?_)
        refine wpAnyG_takeG 0 (oi := ?o10) ?v10 ?hi10 (by kernel_rfl) (by kernel_rfl) (by decide) (by kernel_rfl) (by kernel_rfl) ?hq10 ?hg10 ?hy10 (by assumption) ?hk10
        case hi10 => (simp only [List.getElem?_toArray, List.getElem?_cons_succ, List.getElem?_cons_zero]; rfl)
        case hq10 => exact fun _ _ _ h => h
        case hg10 => (first | with_unfolding_all rfl | (go_simp; with_unfolding_all rfl))
        case hy10 => (intro X hX; (first | obtain ⟨hXa, hXb, hXc, hXd, hXe⟩ := hX | obtain ⟨hXa, hXb, hXc, hXd⟩ := hX | obtain ⟨hXa, hXb, hXc⟩ := hX | obtain ⟨hXa, hXb⟩ := hX | skip); go_simp; try with_reducible rfl)
        try simp only [Act.put, List.setIfInBounds_toArray, List.set_cons_zero, List.set_cons_succ]
        refine wpAnyG_takeG 3 (oi := ?o11) ?v11 ?hi11 (by kernel_rfl) (by kernel_rfl) (by decide) (by kernel_rfl) (by kernel_rfl) ?hq11 ?hg11 ?hy11 (by assumption) ?hk11
        case hi11 => (simp only [List.getElem?_toArray, List.getElem?_cons_succ, List.getElem?_cons_zero]; rfl)
        case hq11 => exact fun _ _ _ h => h
        case hg11 => (first | with_unfolding_all rfl | (go_simp; with_unfolding_all rfl))
        case hy11 => (intro X hX; (first | obtain ⟨hXa, hXb, hXc, hXd, hXe⟩ := hX | obtain ⟨hXa, hXb, hXc, hXd⟩ := hX | obtain ⟨hXa, hXb, hXc⟩ := hX | obtain ⟨hXa, hXb⟩ := hX | skip); go_simp; try with_reducible rfl)
        try simp only [Act.put, List.setIfInBounds_toArray, List.set_cons_zero, List.set_cons_succ]
        refine wpAnyG_takeG 7 (oi := ?o12) ?v12 ?hi12 (by kernel_rfl) (by kernel_rfl) (by decide) (by kernel_rfl) (by kernel_rfl) ?hq12 ?hg12 ?hy12 (by assumption) ?hk12
        case hi12 => (simp only [List.getElem?_toArray, List.getElem?_cons_succ, List.getElem?_cons_zero]; rfl)
        case hq12 => exact fun _ _ _ h => h
        case hg12 => (first | with_unfolding_all rfl | (go_simp; with_unfolding_all rfl))
        case hy12 => (intro X hX; (first | obtain ⟨hXa, hXb, hXc, hXd, hXe⟩ := hX | obtain ⟨hXa, hXb, hXc, hXd⟩ := hX | obtain ⟨hXa, hXb, hXc⟩ := hX | obtain ⟨hXa, hXb⟩ := hX | skip); go_simp; try with_reducible rfl)
        try simp only [Act.put, List.setIfInBounds_toArray, List.set_cons_zero, List.set_cons_succ]
        refine wpAnyG_takeG 10 (oi := ?o13) ?v13 ?hi13 (by kernel_rfl) (by kernel_rfl) (by decide) (by kernel_rfl) (by kernel_rfl) ?hq13 ?hg13 ?hy13 (by assumption) ?hk13
        case hi13 => (simp only [List.getElem?_toArray, List.getElem?_cons_succ, List.getElem?_cons_zero]; rfl)
        case hq13 => exact fun _ _ _ h => h
        case hg13 => (first | with_unfolding_all rfl | (go_simp; with_unfolding_all rfl))
        case hy13 => (intro X hX; (first | obtain ⟨hXa, hXb, hXc, hXd, hXe⟩ := hX | obtain ⟨hXa, hXb, hXc, hXd⟩ := hX | obtain ⟨hXa, hXb, hXc⟩ := hX | obtain ⟨hXa, hXb⟩ := hX | skip); go_simp; try with_reducible rfl)
        try simp only [Act.put, List.setIfInBounds_toArray, List.set_cons_zero, List.set_cons_succ]
        refine wpAnyG_takeG 1 (oi := ?o14) ?v14 ?hi14 (by kernel_rfl) (by kernel_rfl) (by decide) (by kernel_rfl) (by kernel_rfl) ?hq14 ?hg14 ?hy14 (by assumption) ?hk14
        case hi14 => (simp only [List.getElem?_toArray, List.getElem?_cons_succ, List.getElem?_cons_zero]; rfl)
        case hq14 => exact fun _ _ _ h => h
        case hg14 => (first | with_unfolding_all rfl | (go_simp; with_unfolding_all rfl))
        case hy14 => (intro X hX; (first | obtain ⟨hXa, hXb, hXc, hXd, hXe⟩ := hX | obtain ⟨hXa, hXb, hXc, hXd⟩ := hX | obtain ⟨hXa, hXb, hXc⟩ := hX | obtain ⟨hXa, hXb⟩ := hX | skip); go_simp; try with_reducible rfl)
        try simp only [Act.put, List.setIfInBounds_toArray, List.set_cons_zero, List.set_cons_succ]
        refine wpAnyG_takeG 4 (oi := ?o15) ?v15 ?hi15 (by kernel_rfl) (by kernel_rfl) (by decide) (by kernel_rfl) (by kernel_rfl) ?hq15 ?hg15 ?hy15 (by assumption) ?hk15
        case hi15 => (simp only [List.getElem?_toArray, List.getElem?_cons_succ, List.getElem?_cons_zero]; rfl)
        case hq15 => exact fun _ _ _ h => h
        case hg15 => (first | with_unfolding_all rfl | (go_simp; with_unfolding_all rfl))
        case hy15 => (intro X hX; (first | obtain ⟨hXa, hXb, hXc, hXd, hXe⟩ := hX | obtain ⟨hXa, hXb, hXc, hXd⟩ := hX | obtain ⟨hXa, hXb, hXc⟩ := hX | obtain ⟨hXa, hXb⟩ := hX | skip); go_simp; try with_reducible rfl)
        try simp only [Act.put, List.setIfInBounds_toArray, List.set_cons_zero, List.set_cons_succ]
        refine wpAnyG_takeG 8 (oi := ?o16) ?v16 ?hi16 (by kernel_rfl) (by kernel_rfl) (by decide) (by kernel_rfl) (by kernel_rfl) ?hq16 ?hg16 ?hy16 (by assumption) ?hk16
        case hi16 => (simp only [List.getElem?_toArray, List.getElem?_cons_succ, List.getElem?_cons_zero]; rfl)
        case hq16 => exact fun _ _ _ h => h
        case hg16 => (first | with_unfolding_all rfl | (go_simp; with_unfolding_all rfl))
        case hy16 => (intro X hX; (first | obtain ⟨hXa, hXb, hXc, hXd, hXe⟩ := hX | obtain ⟨hXa, hXb, hXc, hXd⟩ := hX | obtain ⟨hXa, hXb, hXc⟩ := hX | obtain ⟨hXa, hXb⟩ := hX | skip); go_simp; try with_reducible rfl)
        try simp only [Act.put, List.setIfInBounds_toArray, List.set_cons_zero, List.set_cons_succ]
        refine wpAnyG_takeG 2 (oi := ?o17) ?v17 ?hi17 (by kernel_rfl) (by kernel_rfl) (by decide) (by kernel_rfl) (by kernel_rfl) ?hq17 ?hg17 ?hy17 (by assumption) ?hk17
        case hi17 => (simp only [List.getElem?_toArray, List.getElem?_cons_succ, List.getElem?_cons_zero]; rfl)
        case hq17 => exact fun _ _ _ h => h
        case hg17 => (first | with_unfolding_all rfl | (go_simp; with_unfolding_all rfl))
        case hy17 => (intro X hX; (first | obtain ⟨hXa, hXb, hXc, hXd, hXe⟩ := hX | obtain ⟨hXa, hXb, hXc, hXd⟩ := hX | obtain ⟨hXa, hXb, hXc⟩ := hX | obtain ⟨hXa, hXb⟩ := hX | skip); go_simp; try with_reducible rfl)
        try simp only [Act.put, List.setIfInBounds_toArray, List.set_cons_zero, List.set_cons_succ]
        refine wpAnyG_takeG 5 (oi := ?o18) ?v18 ?hi18 (by kernel_rfl) (by kernel_rfl) (by decide) (by kernel_rfl) (by kernel_rfl) ?hq18 ?hg18 ?hy18 (by assumption) ?hk18
        case hi18 => (simp only [List.getElem?_toArray, List.getElem?_cons_succ, List.getElem?_cons_zero]; rfl)
        case hq18 => exact fun _ _ _ h => h
        case hg18 => (first | with_unfolding_all rfl | (go_simp; with_unfolding_all rfl))
        case hy18 => (intro X hX; (first | obtain ⟨hXa, hXb, hXc, hXd, hXe⟩ := hX | obtain ⟨hXa, hXb, hXc, hXd⟩ := hX | obtain ⟨hXa, hXb, hXc⟩ := hX | obtain ⟨hXa, hXb⟩ := hX | skip); go_simp; try with_reducible rfl)
        try simp only [Act.put, List.setIfInBounds_toArray, List.set_cons_zero, List.set_cons_succ]
        refine wpAnyG_takeG 9 (oi := ?o19) ?v19 ?hi19 (by kernel_rfl) (by kernel_rfl) (by decide) (by kernel_rfl) (by kernel_rfl) ?hq19 ?hg19 ?hy19 (by assumption) ?hk19
        case hi19 => (simp only [List.getElem?_toArray, List.getElem?_cons_succ, List.getElem?_cons_zero]; rfl)
        case hq19 => exact fun _ _ _ h => h
        case hg19 => (first | with_unfolding_all rfl | (go_simp; with_unfolding_all rfl))
        case hy19 => (intro X hX; (first | obtain ⟨hXa, hXb, hXc, hXd, hXe⟩ := hX | obtain ⟨hXa, hXb, hXc, hXd⟩ := hX | obtain ⟨hXa, hXb, hXc⟩ := hX | obtain ⟨hXa, hXb⟩ := hX | skip); go_simp; try with_reducible rfl)
        try simp only [Act.put, List.setIfInBounds_toArray, List.set_cons_zero, List.set_cons_succ]
        refine wpAnyG_takeG 6 (oi := ?o20) ?v20 ?hi20 (by kernel_rfl) (by kernel_rfl) (by decide) (by kernel_rfl) (by kernel_rfl) ?hq20 ?hg20 ?hy20 (by assumption) ?hk20
        case hi20 => (simp only [List.getElem?_toArray, List.getElem?_cons_succ, List.getElem?_cons_zero]; rfl)
        case hq20 => exact fun _ _ _ h => h
        case hg20 => (first | with_unfolding_all rfl | (go_simp; with_unfolding_all rfl))
        case hy20 => (intro X hX; (first | obtain ⟨hXa, hXb, hXc, hXd, hXe⟩ := hX | obtain ⟨hXa, hXb, hXc, hXd⟩ := hX | obtain ⟨hXa, hXb, hXc⟩ := hX | obtain ⟨hXa, hXb⟩ := hX | skip); go_simp; try with_reducible rfl)
        try simp only [Act.put, List.setIfInBounds_toArray, List.set_cons_zero, List.set_cons_succ]
        refine wpAnyG_takeG 11 (oi := ?oo115) (.agg (Tk.raw (115 :: c1 :: r) n).vals.toArray) ?hi115 (by kernel_rfl) (by kernel_rfl) (by decide) (by kernel_rfl) (by kernel_rfl) ?hq115 ?hg115 ?hy115 (by assumption) ?hk115
        case hi115 => (simp only [List.getElem?_toArray, List.getElem?_cons_succ, List.getElem?_cons_zero]; rfl)
        case hq115 => exact fun _ _ _ h => h
        case hg115 => (first | with_unfolding_all rfl | (go_simp; with_unfolding_all rfl))
        case hy115 =>
          intro X hX
          have e1 : IntKind.i64.wrap (c1.toNat : Int) = (c1.toNat : Int) := by rw [IntKind.wrap_i64]; omega
          have e2 : IntKind.i64.wrap ((c1.toNat : Int) - 48) = (c1.toNat : Int) - 48 := by rw [IntKind.wrap_i64]; omega
          go_simp
          first | rfl | (rw [e1, e2]; rfl)
        try simp only [Act.put, List.setIfInBounds_toArray, List.set_cons_zero, List.set_cons_succ]
        have H4 := Lib.hid ((H3.out.alloc zTk 39).drew)
        have hb4 := ((Below.refl w3.heap.size w3).alloc (Nat.le_refl _) (.cells zTk.toArray 39)).drew
        obtain ⟨t, ht⟩ : ∃ t, Tk.raw (115 :: c1 :: r) n = t := ⟨_, rfl⟩
        rw [ht] at hO
        simp only [ht]
        clear ht hb0 hb1 hb2 hc1
        refine wpAnyG_one 12 (o := ?o21) (by kernel_rfl) ?hi21 ?hg21 ?hk21
        case hi21 => (simp only [List.getElem?_toArray, List.getElem?_cons_succ, List.getElem?_cons_zero]; rfl)
        case hg21 => rfl
        intro K hK
        go_simp
        generalize World.drew (World.alloc _ _) = W4 at *
        refine hK.out _ _ (fun _ => trivial) (fun _ => ?_)
        clear hK K hHeld
        have hHeld : True := trivial
        try simp only [Act.put, List.setIfInBounds_toArray, List.set_cons_zero, List.set_cons_succ]
        refine wpAnyG_one 13 (o := ?o22) (by kernel_rfl) ?hi22 ?hg22 ?hk22
        case hi22 => (simp only [List.getElem?_toArray, List.getElem?_cons_succ, List.getElem?_cons_zero]; rfl)
        case hg22 => rfl
        intro K hK
        refine oper_store_blk (ty := 39) (t := 39) (b := w3.heap.size) (o := 0) zTk t.vals (by with_unfolding_all rfl) (by with_unfolding_all rfl) (H4.out.at 0 rfl) (Nat.le_refl _) info39 (Tk.one _) ?_
        intro W5 hBW5 hoW5
        refine hK.out _ _ (fun h => absurd rfl h) (fun _ => ?_)
        clear hK K hHeld
        refine wpAnyG_done (by kernel_rfl) ?_ _
        have H5 : Hid (St w.heap.size w W5 (bk w3.heap.size 39 t.vals :: bk w.heap.size 39 zTk :: [])) := Lib.hid (H4.out.sets (L' := t.vals) hBW5 hoW5)
        have V5 : Hid (Vars W5) := Lib.hid (V3.out.ext (hoW5.below (Nat.le_refl _) hb4))
        clear hBW5 hoW5 hb4
        have R5 := Lib.hid (Blk.box (H5.out.at 0 rfl)).range
        have hT := tkText_any t W5 V5.out
        generalize w3.heap.size = g at *
        cases hok : t.okB
        · rw [hok] at hT
          have HT := Lib.hid hT
          clear hT
          go_upto_region 8 with (first
            | (with_reducible refine wpList_load_rng (ty := 39) t.vals (by with_unfolding_all rfl) R5.out Tryd.underlying39 (by with_unfolding_all rfl) (by with_unfolding_all exact info39) ?_)
            | ((with_reducible refine HT.out.mono ?_)
               rintro e w6 ⟨rfl, hb6⟩
               have H6 := Lib.hid (H5.out.ext hb6)
               clear hb6))
          have HOn : Hid (O = none) := Lib.hid (by rw [hO]; simp [hok])
          have B9 := Lib.hid (H6.out.at 1 rfl)
          clear hO
          go_wp2_with (first
            | (with_reducible refine wpList_buildA (t := 39) [] (Tk.vals ⟨false, 0, false, 0⟩) (by with_unfolding_all rfl) tk_built0 ?_)
            | (with_reducible refine wpList_store_blk (ty := 39) (o := 0) _ (Tk.vals ⟨false, 0, false, 0⟩) (by with_unfolding_all rfl) (by with_unfolding_all rfl) B9.out (by with_unfolding_all exact Nat.le_refl _) (by with_unfolding_all exact info39) (Tk.one _) (fun W9 hBW9 hoW9 => ?_)))
          have h9 := (H6.out.pull 1 rfl).sets (L' := Tk.vals ⟨false, 0, false, 0⟩) hBW9 hoW9
          exact ret_cell2 (cs := Tk.vals ⟨false, 0, false, 0⟩) Tryd.results27 (by rfl) (by rfl) (Blk.box h9.head).range Tryd.underlying39 rfl info39 rfl ⟨by first | rfl | (rw [HOn.out]; rfl), h9.below⟩
        · rw [hok] at hT
          have HT := Lib.hid hT
          clear hT
          by_cases hs : t.text = s
          · have hO2 : O = some t := by rw [hO, if_pos ⟨by trivial, by simp [headOk]⟩, if_pos ⟨hok, hs⟩]
            have HO := Lib.hid hO2
            rw [hs] at HT
            clear hO hO2 hs hok
            go_upto_region 9 with (first
              | (with_reducible refine wpList_load_rng (ty := 39) t.vals (by with_unfolding_all rfl) R5.out Tryd.underlying39 (by with_unfolding_all rfl) (by with_unfolding_all exact info39) ?_)
              | ((with_reducible refine HT.out.mono ?_)
                 rintro e w6 ⟨rfl, hb6⟩
                 have H6 := Lib.hid (H5.out.ext hb6)
                 clear hb6))
            have R6 := Lib.hid (Blk.box (H6.out.at 0 rfl)).range
            have B9 := Lib.hid (H6.out.at 1 rfl)
            go_wp2_with (first
              | (with_reducible refine wpList_load_rng (ty := 39) t.vals (by with_unfolding_all rfl) R6.out Tryd.underlying39 (by with_unfolding_all rfl) (by with_unfolding_all exact info39) ?_)
              | (with_reducible refine wpList_store_blk (ty := 39) (o := 0) _ t.vals (by with_unfolding_all rfl) (by with_unfolding_all rfl) B9.out (by with_unfolding_all exact Nat.le_refl _) (by with_unfolding_all exact info39) (Tk.one _) (fun W9 hBW9 hoW9 => ?_)))
            have h9 := (H6.out.pull 1 rfl).sets (L' := t.vals) hBW9 hoW9
            exact ret_cell2 (cs := t.vals) Tryd.results27 (by rfl) (by rfl) (Blk.box h9.head).range Tryd.underlying39 rfl info39 rfl ⟨by first | rfl | (rw [HO.out]; rfl), h9.below⟩
          · have hs2 : (t.text != s) = true := by simpa using hs
            have hs3 : (t.text == s) = false := by simpa using hs
            have hn : O = none := by rw [hO, if_pos ⟨by trivial, by simp [headOk]⟩, if_neg (fun h => hs h.2)]
            generalize t.text = tx at *
            go_upto_region 8 with (first
              | (with_reducible refine wpList_load_rng (ty := 39) t.vals (by with_unfolding_all rfl) R5.out Tryd.underlying39 (by with_unfolding_all rfl) (by with_unfolding_all exact info39) ?_)
              | ((with_reducible refine HT.out.mono ?_)
                 rintro e w6 ⟨rfl, hb6⟩
                 have H6 := Lib.hid (H5.out.ext hb6)
                 clear hb6))
            have HOn : Hid (O = none) := Lib.hid (hn)
            have B9 := Lib.hid (H6.out.at 1 rfl)
            clear hO
            go_wp2_with (first
              | (with_reducible refine wpList_buildA (t := 39) [] (Tk.vals ⟨false, 0, false, 0⟩) (by with_unfolding_all rfl) tk_built0 ?_)
              | (with_reducible refine wpList_store_blk (ty := 39) (o := 0) _ (Tk.vals ⟨false, 0, false, 0⟩) (by with_unfolding_all rfl) (by with_unfolding_all rfl) B9.out (by with_unfolding_all exact Nat.le_refl _) (by with_unfolding_all exact info39) (Tk.one _) (fun W9 hBW9 hoW9 => ?_)))
            have h9 := (H6.out.pull 1 rfl).sets (L' := Tk.vals ⟨false, 0, false, 0⟩) hBW9 hoW9
            exact ret_cell2 (cs := Tk.vals ⟨false, 0, false, 0⟩) Tryd.results27 (by rfl) (by rfl) (Blk.box h9.head).range Tryd.underlying39 rfl info39 rfl ⟨by first | rfl | (rw [HOn.out]; rfl), h9.below⟩
      by_cases e1 : c0 = 99
      · subst e1
        go_enter Tryd.func27, Tryd.ntmps27
        go_upto_region 1 with (fail)
        generalize World.alloc _ _ = w1 at *
        have HC1 := HC w1 HV.out.m
        go_upto_region 3 with (first
          | ((with_reducible refine HC1.out.mono ?_)
             rintro e w2 ⟨rfl, hb2⟩
             have H2 := Lib.hid (H0.out.ext hb2)
             have V2 := Lib.hid (HV.out.ext hb2)
             clear hb2)
          | ((with_reducible refine (HI.out w2).mono ?_)
             rintro e w3 ⟨rfl, hb3⟩
             have H3 := Lib.hid (H2.out.ext hb3)
             have V3 := Lib.hid (V2.out.ext hb3)
             clear hb3))
        have h2 : ¬ ((r.length : Int) + 1 + 1 < 2) := by omega
        have hb0 : (0 : Int) < (r.length : Int) + 1 + 1 := by omega
        go_upto_region 5 with (fail)
        have hc1 := c1.toNat_lt
        have hb0 : (0 : Int) < (r.length : Int) + 1 + 1 := by omega
        have hb1 : (1 : Int) < (r.length : Int) + 1 + 1 := by omega
        have hb2 : (2 : Int) ≤ (r.length : Int) + 1 + 1 := by omega
        refine wp_region_last (fun _ => True) 13 (by kernel_rfl) trivial (fun hHeld => ?_)
        refine wpAnyG_takeG 0 (oi := ?o36) ?v36 ?hi36 (by kernel_rfl) (by kernel_rfl) (by decide) (by kernel_rfl) (by kernel_rfl) ?hq36 ?hg36 ?hy36 (by assumption) ?hk36
        case hi36 => (simp only [List.getElem?_toArray, List.getElem?_cons_succ, List.getElem?_cons_zero]; rfl)
        case hq36 => exact fun _ _ _ h => h
        case hg36 => (first | with_unfolding_all rfl | (go_simp; with_unfolding_all rfl))
        case hy36 => (intro X hX; (first | obtain ⟨hXa, hXb, hXc, hXd, hXe⟩ := hX | obtain ⟨hXa, hXb, hXc, hXd⟩ := hX | obtain ⟨hXa, hXb, hXc⟩ := hX | obtain ⟨hXa, hXb⟩ := hX | skip); go_simp; try with_reducible rfl)
        try simp only [Act.put, List.setIfInBounds_toArray, List.set_cons_zero, List.set_cons_succ]
        refine wpAnyG_takeG 3 (oi := ?o37) ?v37 ?hi37 (by kernel_rfl) (by kernel_rfl) (by decide) (by kernel_rfl) (by kernel_rfl) ?hq37 ?hg37 ?hy37 (by assumption) ?hk37
        case hi37 => (simp only [List.getElem?_toArray, List.getElem?_cons_succ, List.getElem?_cons_zero]; rfl)
        case hq37 => exact fun _ _ _ h => h
        case hg37 => (first | with_unfolding_all rfl | (go_simp; with_unfolding_all rfl))
        case hy37 => (intro X hX; (first | obtain ⟨hXa, hXb, hXc, hXd, hXe⟩ := hX | obtain ⟨hXa, hXb, hXc, hXd⟩ := hX | obtain ⟨hXa, hXb, hXc⟩ := hX | obtain ⟨hXa, hXb⟩ := hX | skip); go_simp; try with_reducible rfl)
        try simp only [Act.put, List.setIfInBounds_toArray, List.set_cons_zero, List.set_cons_succ]
        refine wpAnyG_takeG 7 (oi := ?o38) ?v38 ?hi38 (by kernel_rfl) (by kernel_rfl) (by decide) (by kernel_rfl) (by kernel_rfl) ?hq38 ?hg38 ?hy38 (by assumption) ?hk38
        case hi38 => (simp only [List.getElem?_toArray, List.getElem?_cons_succ, List.getElem?_cons_zero]; rfl)
        case hq38 => exact fun _ _ _ h => h
        case hg38 => (first | with_unfolding_all rfl | (go_simp; with_unfolding_all rfl))
        case hy38 => (intro X hX; (first | obtain ⟨hXa, hXb, hXc, hXd, hXe⟩ := hX | obtain ⟨hXa, hXb, hXc, hXd⟩ := hX | obtain ⟨hXa, hXb, hXc⟩ := hX | obtain ⟨hXa, hXb⟩ := hX | skip); go_simp; try with_reducible rfl)
        try simp only [Act.put, List.setIfInBounds_toArray, List.set_cons_zero, List.set_cons_succ]
        refine wpAnyG_takeG 10 (oi := ?o39) ?v39 ?hi39 (by kernel_rfl) (by kernel_rfl) (by decide) (by kernel_rfl) (by kernel_rfl) ?hq39 ?hg39 ?hy39 (by assumption) ?hk39
        case hi39 => (simp only [List.getElem?_toArray, List.getElem?_cons_succ, List.getElem?_cons_zero]; rfl)
        case hq39 => exact fun _ _ _ h => h
        case hg39 => (first | with_unfolding_all rfl | (go_simp; with_unfolding_all rfl))
        case hy39 => (intro X hX; (first | obtain ⟨hXa, hXb, hXc, hXd, hXe⟩ := hX | obtain ⟨hXa, hXb, hXc, hXd⟩ := hX | obtain ⟨hXa, hXb, hXc⟩ := hX | obtain ⟨hXa, hXb⟩ := hX | skip); go_simp; try with_reducible rfl)
        try simp only [Act.put, List.setIfInBounds_toArray, List.set_cons_zero, List.set_cons_succ]
        refine wpAnyG_takeG 1 (oi := ?o40) ?v40 ?hi40 (by kernel_rfl) (by kernel_rfl) (by decide) (by kernel_rfl) (by kernel_rfl) ?hq40 ?hg40 ?hy40 (by assumption) ?hk40
        case hi40 => (simp only [List.getElem?_toArray, List.getElem?_cons_succ, List.getElem?_cons_zero]; rfl)
        case hq40 => exact fun _ _ _ h => h
        case hg40 => (first | with_unfolding_all rfl | (go_simp; with_unfolding_all rfl))
        case hy40 => (intro X hX; (first | obtain ⟨hXa, hXb, hXc, hXd, hXe⟩ := hX | obtain ⟨hXa, hXb, hXc, hXd⟩ := hX | obtain ⟨hXa, hXb, hXc⟩ := hX | obtain ⟨hXa, hXb⟩ := hX | skip); go_simp; try with_reducible rfl)
        try simp only [Act.put, List.setIfInBounds_toArray, List.set_cons_zero, List.set_cons_succ]
        refine wpAnyG_takeG 4 (oi := ?o41) ?v41 ?hi41 (by kernel_rfl) (by kernel_rfl) (by decide) (by kernel_rfl) (by kernel_rfl) ?hq41 ?hg41 ?hy41 (by assumption) ?hk41
        case hi41 => (simp only [List.getElem?_toArray, List.getElem?_cons_succ, List.getElem?_cons_zero]; rfl)
        case hq41 => exact fun _ _ _ h => h
        case hg41 => (first | with_unfolding_all rfl | (go_simp; with_unfolding_all rfl))
        case hy41 => (intro X hX; (first | obtain ⟨hXa, hXb, hXc, hXd, hXe⟩ := hX | obtain ⟨hXa, hXb, hXc, hXd⟩ := hX | obtain ⟨hXa, hXb, hXc⟩ := hX | obtain ⟨hXa, hXb⟩ := hX | skip); go_simp; try with_reducible rfl)
        try simp only [Act.put, List.setIfInBounds_toArray, List.set_cons_zero, List.set_cons_succ]
        refine wpAnyG_takeG 8 (oi := ?o42) ?v42 ?hi42 (by kernel_rfl) (by kernel_rfl) (by decide) (by kernel_rfl) (by kernel_rfl) ?hq42 ?hg42 ?hy42 (by assumption) ?hk42
        case hi42 => (simp only [List.getElem?_toArray, List.getElem?_cons_succ, List.getElem?_cons_zero]; rfl)
        case hq42 => exact fun _ _ _ h => h
        case hg42 => (first | with_unfolding_all rfl | (go_simp; with_unfolding_all rfl))
        case hy42 => (intro X hX; (first | obtain ⟨hXa, hXb, hXc, hXd, hXe⟩ := hX | obtain ⟨hXa, hXb, hXc, hXd⟩ := hX | obtain ⟨hXa, hXb, hXc⟩ := hX | obtain ⟨hXa, hXb⟩ := hX | skip); go_simp; try with_reducible rfl)
        try simp only [Act.put, List.setIfInBounds_toArray, List.set_cons_zero, List.set_cons_succ]
        refine wpAnyG_takeG 2 (oi := ?o43) ?v43 ?hi43 (by kernel_rfl) (by kernel_rfl) (by decide) (by kernel_rfl) (by kernel_rfl) ?hq43 ?hg43 ?hy43 (by assumption) ?hk43
        case hi43 => (simp only [List.getElem?_toArray, List.getElem?_cons_succ, List.getElem?_cons_zero]; rfl)
        case hq43 => exact fun _ _ _ h => h
        case hg43 => (first | with_unfolding_all rfl | (go_simp; with_unfolding_all rfl))
        case hy43 => (intro X hX; (first | obtain ⟨hXa, hXb, hXc, hXd, hXe⟩ := hX | obtain ⟨hXa, hXb, hXc, hXd⟩ := hX | obtain ⟨hXa, hXb, hXc⟩ := hX | obtain ⟨hXa, hXb⟩ := hX | skip); go_simp; try with_reducible rfl)
        try simp only [Act.put, List.setIfInBounds_toArray, List.set_cons_zero, List.set_cons_succ]
        refine wpAnyG_takeG 5 (oi := ?o44) ?v44 ?hi44 (by kernel_rfl) (by kernel_rfl) (by decide) (by kernel_rfl) (by kernel_rfl) ?hq44 ?hg44 ?hy44 (by assumption) ?hk44
        case hi44 => (simp only [List.getElem?_toArray, List.getElem?_cons_succ, List.getElem?_cons_zero]; rfl)
        case hq44 => exact fun _ _ _ h => h
        case hg44 => (first | with_unfolding_all rfl | (go_simp; with_unfolding_all rfl))
        case hy44 => (intro X hX; (first | obtain ⟨hXa, hXb, hXc, hXd, hXe⟩ := hX | obtain ⟨hXa, hXb, hXc, hXd⟩ := hX | obtain ⟨hXa, hXb, hXc⟩ := hX | obtain ⟨hXa, hXb⟩ := hX | skip); go_simp; try with_reducible rfl)
        try simp only [Act.put, List.setIfInBounds_toArray, List.set_cons_zero, List.set_cons_succ]
        refine wpAnyG_takeG 9 (oi := ?o45) ?v45 ?hi45 (by kernel_rfl) (by kernel_rfl) (by decide) (by kernel_rfl) (by kernel_rfl) ?hq45 ?hg45 ?hy45 (by assumption) ?hk45
        case hi45 => (simp only [List.getElem?_toArray, List.getElem?_cons_succ, List.getElem?_cons_zero]; rfl)
        case hq45 => exact fun _ _ _ h => h
        case hg45 => (first | with_unfolding_all rfl | (go_simp; with_unfolding_all rfl))
        case hy45 => (intro X hX; (first | obtain ⟨hXa, hXb, hXc, hXd, hXe⟩ := hX | obtain ⟨hXa, hXb, hXc, hXd⟩ := hX | obtain ⟨hXa, hXb, hXc⟩ := hX | obtain ⟨hXa, hXb⟩ := hX | skip); go_simp; try with_reducible rfl)
        try simp only [Act.put, List.setIfInBounds_toArray, List.set_cons_zero, List.set_cons_succ]
        refine wpAnyG_takeG 6 (oi := ?o46) ?v46 ?hi46 (by kernel_rfl) (by kernel_rfl) (by decide) (by kernel_rfl) (by kernel_rfl) ?hq46 ?hg46 ?hy46 (by assumption) ?hk46
        case hi46 => (simp only [List.getElem?_toArray, List.getElem?_cons_succ, List.getElem?_cons_zero]; rfl)
        case hq46 => exact fun _ _ _ h => h
        case hg46 => (first | with_unfolding_all rfl | (go_simp; with_unfolding_all rfl))
        case hy46 => (intro X hX; (first | obtain ⟨hXa, hXb, hXc, hXd, hXe⟩ := hX | obtain ⟨hXa, hXb, hXc, hXd⟩ := hX | obtain ⟨hXa, hXb, hXc⟩ := hX | obtain ⟨hXa, hXb⟩ := hX | skip); go_simp; try with_reducible rfl)
        try simp only [Act.put, List.setIfInBounds_toArray, List.set_cons_zero, List.set_cons_succ]
        refine wpAnyG_takeG 11 (oi := ?oo99) (.agg (Tk.raw (99 :: c1 :: r) n).vals.toArray) ?hi99 (by kernel_rfl) (by kernel_rfl) (by decide) (by kernel_rfl) (by kernel_rfl) ?hq99 ?hg99 ?hy99 (by assumption) ?hk99
        case hi99 => (simp only [List.getElem?_toArray, List.getElem?_cons_succ, List.getElem?_cons_zero]; rfl)
        case hq99 => exact fun _ _ _ h => h
        case hg99 => (first | with_unfolding_all rfl | (go_simp; with_unfolding_all rfl))
        case hy99 =>
          intro X hX
          have e1 : IntKind.i64.wrap (c1.toNat : Int) = (c1.toNat : Int) := by rw [IntKind.wrap_i64]; omega
          have e2 : IntKind.i64.wrap ((c1.toNat : Int) - 48) = (c1.toNat : Int) - 48 := by rw [IntKind.wrap_i64]; omega
          go_simp
          first | rfl | (rw [e1, e2]; rfl)
        try simp only [Act.put, List.setIfInBounds_toArray, List.set_cons_zero, List.set_cons_succ]
        have H4 := Lib.hid ((H3.out.alloc zTk 39).drew)
        have hb4 := ((Below.refl w3.heap.size w3).alloc (Nat.le_refl _) (.cells zTk.toArray 39)).drew
        obtain ⟨t, ht⟩ : ∃ t, Tk.raw (99 :: c1 :: r) n = t := ⟨_, rfl⟩
        rw [ht] at hO
        simp only [ht]
        clear ht hb0 hb1 hb2 hc1
        refine wpAnyG_one 12 (o := ?o47) (by kernel_rfl) ?hi47 ?hg47 ?hk47
        case hi47 => (simp only [List.getElem?_toArray, List.getElem?_cons_succ, List.getElem?_cons_zero]; rfl)
        case hg47 => rfl
        intro K hK
        go_simp
        generalize World.drew (World.alloc _ _) = W4 at *
        refine hK.out _ _ (fun _ => trivial) (fun _ => ?_)
        clear hK K hHeld
        have hHeld : True := trivial
        try simp only [Act.put, List.setIfInBounds_toArray, List.set_cons_zero, List.set_cons_succ]
        refine wpAnyG_one 13 (o := ?o48) (by kernel_rfl) ?hi48 ?hg48 ?hk48
        case hi48 => (simp only [List.getElem?_toArray, List.getElem?_cons_succ, List.getElem?_cons_zero]; rfl)
        case hg48 => rfl
        intro K hK
        refine oper_store_blk (ty := 39) (t := 39) (b := w3.heap.size) (o := 0) zTk t.vals (by with_unfolding_all rfl) (by with_unfolding_all rfl) (H4.out.at 0 rfl) (Nat.le_refl _) info39 (Tk.one _) ?_
        intro W5 hBW5 hoW5
        refine hK.out _ _ (fun h => absurd rfl h) (fun _ => ?_)
        clear hK K hHeld
        refine wpAnyG_done (by kernel_rfl) ?_ _
        have H5 : Hid (St w.heap.size w W5 (bk w3.heap.size 39 t.vals :: bk w.heap.size 39 zTk :: [])) := Lib.hid (H4.out.sets (L' := t.vals) hBW5 hoW5)
        have V5 : Hid (Vars W5) := Lib.hid (V3.out.ext (hoW5.below (Nat.le_refl _) hb4))
        clear hBW5 hoW5 hb4
        have R5 := Lib.hid (Blk.box (H5.out.at 0 rfl)).range
        have hT := tkText_any t W5 V5.out
        generalize w3.heap.size = g at *
        cases hok : t.okB
        · rw [hok] at hT
          have HT := Lib.hid hT
          clear hT
          go_upto_region 8 with (first
            | (with_reducible refine wpList_load_rng (ty := 39) t.vals (by with_unfolding_all rfl) R5.out Tryd.underlying39 (by with_unfolding_all rfl) (by with_unfolding_all exact info39) ?_)
            | ((with_reducible refine HT.out.mono ?_)
               rintro e w6 ⟨rfl, hb6⟩
               have H6 := Lib.hid (H5.out.ext hb6)
               clear hb6))
          have HOn : Hid (O = none) := Lib.hid (by rw [hO]; simp [hok])
          have B9 := Lib.hid (H6.out.at 1 rfl)
          clear hO
          go_wp2_with (first
            | (with_reducible refine wpList_buildA (t := 39) [] (Tk.vals ⟨false, 0, false, 0⟩) (by with_unfolding_all rfl) tk_built0 ?_)
            | (with_reducible refine wpList_store_blk (ty := 39) (o := 0) _ (Tk.vals ⟨false, 0, false, 0⟩) (by with_unfolding_all rfl) (by with_unfolding_all rfl) B9.out (by with_unfolding_all exact Nat.le_refl _) (by with_unfolding_all exact info39) (Tk.one _) (fun W9 hBW9 hoW9 => ?_)))
          have h9 := (H6.out.pull 1 rfl).sets (L' := Tk.vals ⟨false, 0, false, 0⟩) hBW9 hoW9
          exact ret_cell2 (cs := Tk.vals ⟨false, 0, false, 0⟩) Tryd.results27 (by rfl) (by rfl) (Blk.box h9.head).range Tryd.underlying39 rfl info39 rfl ⟨by first | rfl | (rw [HOn.out]; rfl), h9.below⟩
        · rw [hok] at hT
          have HT := Lib.hid hT
          clear hT
          by_cases hs : t.text = s
          · have hO2 : O = some t := by rw [hO, if_pos ⟨by trivial, by simp [headOk]⟩, if_pos ⟨hok, hs⟩]
            have HO := Lib.hid hO2
            rw [hs] at HT
            clear hO hO2 hs hok
            go_upto_region 9 with (first
              | (with_reducible refine wpList_load_rng (ty := 39) t.vals (by with_unfolding_all rfl) R5.out Tryd.underlying39 (by with_unfolding_all rfl) (by with_unfolding_all exact info39) ?_)
              | ((with_reducible refine HT.out.mono ?_)
                 rintro e w6 ⟨rfl, hb6⟩
                 have H6 := Lib.hid (H5.out.ext hb6)
                 clear hb6))
            have R6 := Lib.hid (Blk.box (H6.out.at 0 rfl)).range
            have B9 := Lib.hid (H6.out.at 1 rfl)
            go_wp2_with (first
              | (with_reducible refine wpList_load_rng (ty := 39) t.vals (by with_unfolding_all rfl) R6.out Tryd.underlying39 (by with_unfolding_all rfl) (by with_unfolding_all exact info39) ?_)
              | (with_reducible refine wpList_store_blk (ty := 39) (o := 0) _ t.vals (by with_unfolding_all rfl) (by with_unfolding_all rfl) B9.out (by with_unfolding_all exact Nat.le_refl _) (by with_unfolding_all exact info39) (Tk.one _) (fun W9 hBW9 hoW9 => ?_)))
            have h9 := (H6.out.pull 1 rfl).sets (L' := t.vals) hBW9 hoW9
            exact ret_cell2 (cs := t.vals) Tryd.results27 (by rfl) (by rfl) (Blk.box h9.head).range Tryd.underlying39 rfl info39 rfl ⟨by first | rfl | (rw [HO.out]; rfl), h9.below⟩
          · have hs2 : (t.text != s) = true := by simpa using hs
            have hs3 : (t.text == s) = false := by simpa using hs
            have hn : O = none := by rw [hO, if_pos ⟨by trivial, by simp [headOk]⟩, if_neg (fun h => hs h.2)]
            generalize t.text = tx at *
            go_upto_region 8 with (first
              | (with_reducible refine wpList_load_rng (ty := 39) t.vals (by with_unfolding_all rfl) R5.out Tryd.underlying39 (by with_unfolding_all rfl) (by with_unfolding_all exact info39) ?_)
              | ((with_reducible refine HT.out.mono ?_)
                 rintro e w6 ⟨rfl, hb6⟩
                 have H6 := Lib.hid (H5.out.ext hb6)
                 clear hb6))
            have HOn : Hid (O = none) := Lib.hid (hn)
            have B9 := Lib.hid (H6.out.at 1 rfl)
            clear hO
            go_wp2_with (first
              | (with_reducible refine wpList_buildA (t := 39) [] (Tk.vals ⟨false, 0, false, 0⟩) (by with_unfolding_all rfl) tk_built0 ?_)
              | (with_reducible refine wpList_store_blk (ty := 39) (o := 0) _ (Tk.vals ⟨false, 0, false, 0⟩) (by with_unfolding_all rfl) (by with_unfolding_all rfl) B9.out (by with_unfolding_all exact Nat.le_refl _) (by with_unfolding_all exact info39) (Tk.one _) (fun W9 hBW9 hoW9 => ?_)))
            have h9 := (H6.out.pull 1 rfl).sets (L' := Tk.vals ⟨false, 0, false, 0⟩) hBW9 hoW9
            exact ret_cell2 (cs := Tk.vals ⟨false, 0, false, 0⟩) Tryd.results27 (by rfl) (by rfl) (Blk.box h9.head).range Tryd.underlying39 rfl info39 rfl ⟨by first | rfl | (rw [HOn.out]; rfl), h9.below⟩
      have hn : O = none := by
        rw [hO, if_neg (fun k => ?_)]
        have k2 := k.2
        simp [headOk, e0, e1] at k2
      have f0 : ((c0.toNat : Int) != 115) = true := by
        rw [bne_iff_ne]
        intro e
        exact e0 (UInt8.toNat_inj.1 (show c0.toNat = 115 by omega))
      have f1 : ((c0.toNat : Int) != 99) = true := by
        rw [bne_iff_ne]
        intro e
        exact e1 (UInt8.toNat_inj.1 (show c0.toNat = 99 by omega))
      clear e0 e1
      go_enter Tryd.func27, Tryd.ntmps27
      go_upto_region 1 with (fail)
      generalize World.alloc _ _ = w1 at *
      have HC1 := HC w1 HV.out.m
      go_upto_region 3 with (first
        | ((with_reducible refine HC1.out.mono ?_)
           rintro e w2 ⟨rfl, hb2⟩
           have H2 := Lib.hid (H0.out.ext hb2)
           have V2 := Lib.hid (HV.out.ext hb2)
           clear hb2)
        | ((with_reducible refine (HI.out w2).mono ?_)
           rintro e w3 ⟨rfl, hb3⟩
           have H3 := Lib.hid (H2.out.ext hb3)
           have V3 := Lib.hid (V2.out.ext hb3)
           clear hb3))
      have h2 : ¬ ((r.length : Int) + 1 + 1 < 2) := by omega
      have hb0 : (0 : Int) < (r.length : Int) + 1 + 1 := by omega
      have HOn : Hid (O = none) := Lib.hid (hn)
      have B9 := Lib.hid (H3.out.at 0 rfl)
      clear hO
      go_wp2_with (first
        | (with_reducible refine wpList_buildA (t := 39) [] (Tk.vals ⟨false, 0, false, 0⟩) (by with_unfolding_all rfl) tk_built0 ?_)
        | (with_reducible refine wpList_store_blk (ty := 39) (o := 0) _ (Tk.vals ⟨false, 0, false, 0⟩) (by with_unfolding_all rfl) (by with_unfolding_all rfl) B9.out (by with_unfolding_all exact Nat.le_refl _) (by with_unfolding_all exact info39) (Tk.one _) (fun W9 hBW9 hoW9 => ?_)))
      have h9 := (H3.out.pull 0 rfl).sets (L' := Tk.vals ⟨false, 0, false, 0⟩) hBW9 hoW9
      exact ret_cell2 (cs := Tk.vals ⟨false, 0, false, 0⟩) Tryd.results27 (by rfl) (by rfl) (Blk.box h9.head).range Tryd.underlying39 rfl info39 rfl ⟨by first | rfl | (rw [HOn.out]; rfl), h9.below⟩
  | _ =>
    have hn : O = none := by rw [hO, hat]
    have HI := fun W (hV : Vars W) => Lib.hid (atoi_bad v hl2 (fun n hn => by rw [hat] at hn; cases hn) W hV.s hV.r)
    clear hat
    cases ok
    all_goals
      go_enter Tryd.func27, Tryd.ntmps27
      go_upto_region 1 with (fail)
      generalize World.alloc _ _ = w1 at *
      have HC1 := HC w1 HV.out.m
      go_upto_region 3 with (first
        | ((with_reducible refine HC1.out.mono ?_)
           rintro e w2 ⟨rfl, hb2⟩
           have H2 := Lib.hid (H0.out.ext hb2)
           have V2 := Lib.hid (HV.out.ext hb2)
           clear hb2)
        | ((with_reducible refine (HI w2 V2.out).out.mono ?_)
           rintro e w3 ⟨n, N, rfl, hb3⟩
           have H3 := Lib.hid (H2.out.ext hb3)
           have V3 := Lib.hid (V2.out.ext hb3)
           clear hb3))
      have HOn : Hid (O = none) := Lib.hid (hn)
      have B9 := Lib.hid (H3.out.at 0 rfl)
      clear hO
      go_wp2_with (first
        | (with_reducible refine wpList_buildA (t := 39) [] (Tk.vals ⟨false, 0, false, 0⟩) (by with_unfolding_all rfl) tk_built0 ?_)
        | (with_reducible refine wpList_store_blk (ty := 39) (o := 0) _ (Tk.vals ⟨false, 0, false, 0⟩) (by with_unfolding_all rfl) (by with_unfolding_all rfl) B9.out (by with_unfolding_all exact Nat.le_refl _) (by with_unfolding_all exact info39) (Tk.one _) (fun W9 hBW9 hoW9 => ?_)))
      have h9 := (H3.out.pull 0 rfl).sets (L' := Tk.vals ⟨false, 0, false, 0⟩) hBW9 hoW9
      exact ret_cell2 (cs := Tk.vals ⟨false, 0, false, 0⟩) Tryd.results27 (by rfl) (by rfl) (Blk.box h9.head).range Tryd.underlying39 rfl info39 rfl ⟨by first | rfl | (rw [HOn.out]; rfl), h9.below⟩
end Go.Proofs.YtkicbabfgahmkaaDoor

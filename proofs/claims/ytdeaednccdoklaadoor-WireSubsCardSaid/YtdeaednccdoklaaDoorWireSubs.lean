/- WireSubs. -/
import Derived.Test.YtdeaednccdoklaaDoorWired
import Derived.Test.YtdeaednccdoklaaDoorPick
import Derived.Test.YtdeaednccdoklaaDoorWireAid
import Derived.Test.YtdeaednccdoklaaDoorReader4
import Derived.Test.YtdeaednccdoklaaDoorSub
import Derived.Test.YtdeaednccdoklaaDoorTell2At
import Derived.Test.YtdeaednccdoklaaDoorHeldG
namespace Go.Proofs.YtdeaednccdoklaaDoor
open Go.RowKit
set_option maxHeartbeats 3000000 in
theorem law_WireSubs (s : List UInt8) (n : Int) (hs : s.length ≤ 9223372036854775807) (hn : (Lit.int .i64 n).wf = true) (w : World) (hE : ErrVar w) :
    Calls Tryd.prog 4 #[.string ⟨s.toArray⟩, .int .i64 n] w fun e w' => e = .returned (.bool true) ∧ Below w.heap.size w w' := by
  clear hn
  have HE := Lib.hid hE
  clear hE
  by_cases h2 : s.length ≤ 200
  · have p1 := pickN_lt n (s.length + 1) (by omega)
    generalize hp : pickN n (s.length + 1) = k at p1
    have Hp := Lib.hid hp
    clear hp
    go_enter Tryd.func4, Tryd.ntmps4
    go_wp2_with fail
    refine (wired_any _).mono ?_
    rintro e w1 ⟨rfl, hb1⟩
    go_wp2_with fail
    rw [show ((s.length : Int) + 1) = ((s.length + 1 : Nat) : Int) by omega]
    refine (pick_any n (s.length + 1) _ (by omega) (by omega)).mono ?_
    rintro e w' ⟨rfl, rfl⟩
    rw [Hp.out]
    go_wp2_with fail
    refine (new_any s 100 _).mono ?_
    rintro e w2 ⟨rfl, hr2, hb2, hlt2⟩
    have Hr2 := Lib.hid hr2
    clear hr2
    go_wp2_with fail
    refine (sub_ok Hr2.out k (by omega) (by omega)).mono ?_
    rintro e w3 ⟨g, rfl, hg, hrs, hr3, hu3⟩
    have Hr3 := Lib.hid hr3
    rw [List.drop_zero] at hrs
    have hlen : (s.take k).length = k := by rw [List.length_take]; omega
    have HL := Lib.hid hlen
    have Hrs := Lib.hid hrs
    have hgne : w1.heap.size ≠ g := by omega
    have hs1 := hb1.size
    clear hr3 hrs hlen
    go_wp2_with fail
    refine (bytes_ok Hrs.out k (by rw [HL.out]; omega) (by rw [HL.out]; omega)).mono ?_
    rintro e w4 ⟨rfl, hrs4, hu4⟩
    have Hrs4 := Lib.hid hrs4
    have Hr4 := Lib.hid (Hr3.out.other hu4 hgne)
    rw [show (((s.take k).drop 0).take k) = s.take k by rw [List.drop_zero, List.take_take, Nat.min_self]]
    clear hrs4
    go_wp2_with fail
    refine (bytes_fail Hrs4.out 1 (by rw [HL.out]; omega) (by rw [HL.out]; omega) (by rw [HL.out]; omega)).mono ?_
    rintro e w5 ⟨rfl, hu5, he5⟩
    rw [if_neg (by decide)] at he5
    obtain ⟨v, hrs5, gv, rfl, hgv, hc5, hc5'⟩ := he5
    have Hrs5 := Lib.hid hrs5.drew
    have Hc5 : Hid (w5.drew.cell? ⟨gv, 0, none⟩ = some (.int .i64 7)) := hc5
    have Hr5 := Lib.hid (Hr4.out.other hu5 hgne).drew
    have b12 := hb1.trans (hb2.mono hb1.size)
    have b13 := b12.trans (hu3.below hb1.size b12.size)
    have b14 := b13.trans (hu4.below (by omega) b13.size)
    have b15 := (b14.trans (hu5.below (by omega) b14.size)).drew
    clear hrs5 hc5 hc5'
    go_wp2_with fail
    have hlast : ((((100 + s.length : Nat) : Int)) == 100 + (s.length : Int)) = true := by simp
    have e7 : (s.drop (0 + k)).take (s.length - k) = s.drop k := by rw [Nat.zero_add, List.take_of_length_le (by rw [List.length_drop]; exact Nat.le_refl _)]
    have e8 : 0 + k + (s.length - k) = s.length := by omega
    have E7 := Lib.hid e7
    have E8 := Lib.hid e8
    clear e7 e8
    have hkl : k ≤ s.length := by omega
    refine wp_region_last (fun _ => True) 41 (by kernel_rfl) trivial (fun hHeld => ?_)
    refine wpAnyG_takeG 0 (oi := ?o2) ?v2 ?hi2 (by kernel_rfl) (by kernel_rfl) (by decide) (by kernel_rfl) (by kernel_rfl) ?hq2 ?hg2 ?hy2 (by assumption) ?hk2
    case hi2 => (simp only [List.getElem?_toArray, List.getElem?_cons_succ, List.getElem?_cons_zero]; rfl)
    case hq2 => exact fun _ _ _ h => h
    case hg2 => (first | with_unfolding_all rfl | (go_simp; with_unfolding_all rfl))
    case hy2 => (intro X hX; go_simp; try with_reducible rfl)
    try simp only [Act.put, List.setIfInBounds_toArray, List.set_cons_zero, List.set_cons_succ]
    refine wpAnyG_takeG 1 (oi := ?o3) ?v3 ?hi3 (by kernel_rfl) (by kernel_rfl) (by decide) (by kernel_rfl) (by kernel_rfl) ?hq3 ?hg3 ?hy3 (by assumption) ?hk3
    case hi3 => (simp only [List.getElem?_toArray, List.getElem?_cons_succ, List.getElem?_cons_zero]; rfl)
    case hq3 => exact fun _ _ _ h => h
    case hg3 => (first | with_unfolding_all rfl | (go_simp; with_unfolding_all rfl))
    case hy3 => (intro X hX; go_simp; try with_reducible rfl)
    try simp only [Act.put, List.setIfInBounds_toArray, List.set_cons_zero, List.set_cons_succ]
    refine wpAnyG_takeG 2 (oi := ?o4) ?v4 ?hi4 (by kernel_rfl) (by kernel_rfl) (by decide) (by kernel_rfl) (by kernel_rfl) ?hq4 ?hg4 ?hy4 (by assumption) ?hk4
    case hi4 => (simp only [List.getElem?_toArray, List.getElem?_cons_succ, List.getElem?_cons_zero]; rfl)
    case hq4 => exact fun _ _ _ h => h
    case hg4 => (first | with_unfolding_all rfl | (go_simp; with_unfolding_all rfl))
    case hy4 => (intro X hX; go_simp; try with_reducible rfl)
    try simp only [Act.put, List.setIfInBounds_toArray, List.set_cons_zero, List.set_cons_succ]
    refine wpAnyG_takeG 3 (oi := ?o5) ?v5 ?hi5 (by kernel_rfl) (by kernel_rfl) (by decide) (by kernel_rfl) (by kernel_rfl) ?hq5 ?hg5 ?hy5 (by assumption) ?hk5
    case hi5 => (simp only [List.getElem?_toArray, List.getElem?_cons_succ, List.getElem?_cons_zero]; rfl)
    case hq5 => exact fun _ _ _ h => h
    case hg5 => (first | with_unfolding_all rfl | (go_simp; with_unfolding_all rfl))
    case hy5 => (intro X hX; go_simp; try with_reducible rfl)
    try simp only [Act.put, List.setIfInBounds_toArray, List.set_cons_zero, List.set_cons_succ]
    refine wpAnyG_takeG 4 (oi := ?o6) ?v6 ?hi6 (by kernel_rfl) (by kernel_rfl) (by decide) (by kernel_rfl) (by kernel_rfl) ?hq6 ?hg6 ?hy6 (by assumption) ?hk6
    case hi6 => (simp only [List.getElem?_toArray, List.getElem?_cons_succ, List.getElem?_cons_zero]; rfl)
    case hq6 => exact fun _ _ _ h => h
    case hg6 => (first | with_unfolding_all rfl | (go_simp; with_unfolding_all rfl))
    case hy6 => (intro X hX; go_simp; try with_reducible rfl)
    try simp only [Act.put, List.setIfInBounds_toArray, List.set_cons_zero, List.set_cons_succ]
    refine wpAnyG_takeG 5 (oi := ?o7) ?v7 ?hi7 (by kernel_rfl) (by kernel_rfl) (by decide) (by kernel_rfl) (by kernel_rfl) ?hq7 ?hg7 ?hy7 (by assumption) ?hk7
    case hi7 => (simp only [List.getElem?_toArray, List.getElem?_cons_succ, List.getElem?_cons_zero]; rfl)
    case hq7 => exact fun _ _ _ h => h
    case hg7 => (first | with_unfolding_all rfl | (go_simp; with_unfolding_all rfl))
    case hy7 => (intro X hX; go_simp; try with_reducible rfl)
    try simp only [Act.put, List.setIfInBounds_toArray, List.set_cons_zero, List.set_cons_succ]
    refine wpAnyG_takeG 6 (oi := ?o8) ?v8 ?hi8 (by kernel_rfl) (by kernel_rfl) (by decide) (by kernel_rfl) (by kernel_rfl) ?hq8 ?hg8 ?hy8 (by assumption) ?hk8
    case hi8 => (simp only [List.getElem?_toArray, List.getElem?_cons_succ, List.getElem?_cons_zero]; rfl)
    case hq8 => exact fun _ _ _ h => h
    case hg8 => (first | with_unfolding_all rfl | (go_simp; with_unfolding_all rfl))
    case hy8 => (intro X hX; go_simp; try with_reducible rfl)
    try simp only [Act.put, List.setIfInBounds_toArray, List.set_cons_zero, List.set_cons_succ]
    refine wpAnyG_oneG 7 (o := ?o9) (by kernel_rfl) ?hi9 ?hg9 ?hk9
    case hi9 => (simp only [List.getElem?_toArray, List.getElem?_cons_succ, List.getElem?_cons_zero]; rfl)
    case hg9 => with_unfolding_all rfl
    intro K hK
    go_simp
    refine (err_any Hrs5.out).mono ?_
    rintro e w6 ⟨rfl, rfl⟩
    refine hK.out _ _ (fun _ => trivial) (fun _ => ?_)
    clear hK K
    try simp only [Act.put, List.setIfInBounds_toArray, List.set_cons_zero, List.set_cons_succ]
    refine wpAnyG_oneG 8 (o := ?o10) (by kernel_rfl) ?hi10 ?hg10 ?hk10
    case hi10 => (simp only [List.getElem?_toArray, List.getElem?_cons_succ, List.getElem?_cons_zero]; rfl)
    case hg10 => with_unfolding_all rfl
    intro K hK
    go_simp
    refine (tell_at gv 7 _ (HE.out.keep b15) Hc5.out).mono ?_
    rintro e w6 ⟨rfl, hb6⟩
    have Hr6 := Lib.hid (Hr5.out.keep hb6)
    have b16 := b15.trans (hb6.mono b15.size)
    refine hK.out _ _ (fun _ => trivial) (fun _ => ?_)
    clear hK K
    try simp only [Act.put, List.setIfInBounds_toArray, List.set_cons_zero, List.set_cons_succ]
    refine wpAnyG_takeG 9 (oi := ?o12) ?v12 ?hi12 (by kernel_rfl) (by kernel_rfl) (by decide) (by kernel_rfl) (by kernel_rfl) ?hq12 ?hg12 ?hy12 (by assumption) ?hk12
    case hi12 => (simp only [List.getElem?_toArray, List.getElem?_cons_succ, List.getElem?_cons_zero]; rfl)
    case hq12 => exact fun _ _ _ h => h
    case hg12 => (first | with_unfolding_all rfl | (go_simp; with_unfolding_all rfl))
    case hy12 => (intro X hX; go_simp; try with_reducible rfl)
    try simp only [Act.put, List.setIfInBounds_toArray, List.set_cons_zero, List.set_cons_succ]
    refine wpAnyG_takeG 10 (oi := ?o13) ?v13 ?hi13 (by kernel_rfl) (by kernel_rfl) (by decide) (by kernel_rfl) (by kernel_rfl) ?hq13 ?hg13 ?hy13 (by assumption) ?hk13
    case hi13 => (simp only [List.getElem?_toArray, List.getElem?_cons_succ, List.getElem?_cons_zero]; rfl)
    case hq13 => exact fun _ _ _ h => h
    case hg13 => (first | with_unfolding_all rfl | (go_simp; with_unfolding_all rfl))
    case hy13 => (intro X hX; go_simp; try with_reducible rfl)
    try simp only [Act.put, List.setIfInBounds_toArray, List.set_cons_zero, List.set_cons_succ]
    refine wpAnyG_takeG 11 (oi := ?o14) ?v14 ?hi14 (by kernel_rfl) (by kernel_rfl) (by decide) (by kernel_rfl) (by kernel_rfl) ?hq14 ?hg14 ?hy14 (by assumption) ?hk14
    case hi14 => (simp only [List.getElem?_toArray, List.getElem?_cons_succ, List.getElem?_cons_zero]; rfl)
    case hq14 => exact fun _ _ _ h => h
    case hg14 => (first | with_unfolding_all rfl | (go_simp; with_unfolding_all rfl))
    case hy14 => (intro X hX; go_simp; try with_reducible rfl)
    try simp only [Act.put, List.setIfInBounds_toArray, List.set_cons_zero, List.set_cons_succ]
    refine wpAnyG_takeG 12 (oi := ?o15) ?v15 ?hi15 (by kernel_rfl) (by kernel_rfl) (by decide) (by kernel_rfl) (by kernel_rfl) ?hq15 ?hg15 ?hy15 (by assumption) ?hk15
    case hi15 => (simp only [List.getElem?_toArray, List.getElem?_cons_succ, List.getElem?_cons_zero]; rfl)
    case hq15 => exact fun _ _ _ h => h
    case hg15 => (first | with_unfolding_all rfl | (go_simp; with_unfolding_all rfl))
    case hy15 => (intro X hX; go_simp; try with_reducible rfl)
    try simp only [Act.put, List.setIfInBounds_toArray, List.set_cons_zero, List.set_cons_succ]
    refine wpAnyG_oneG 13 (o := ?o16) (by kernel_rfl) ?hi16 ?hg16 ?hk16
    case hi16 => (simp only [List.getElem?_toArray, List.getElem?_cons_succ, List.getElem?_cons_zero]; rfl)
    case hg16 => with_unfolding_all rfl
    intro K hK
    go_simp
    refine (err_any Hr6.out).mono ?_
    rintro e w7 ⟨rfl, rfl⟩
    refine hK.out _ _ (fun _ => trivial) (fun _ => ?_)
    clear hK K
    try simp only [Act.put, List.setIfInBounds_toArray, List.set_cons_zero, List.set_cons_succ]
    refine wpAnyG_takeG 14 (oi := ?o18) ?v18 ?hi18 (by kernel_rfl) (by kernel_rfl) (by decide) (by kernel_rfl) (by kernel_rfl) ?hq18 ?hg18 ?hy18 (by assumption) ?hk18
    case hi18 => (simp only [List.getElem?_toArray, List.getElem?_cons_succ, List.getElem?_cons_zero]; rfl)
    case hq18 => exact fun _ _ _ h => h
    case hg18 => (first | with_unfolding_all rfl | (go_simp; with_unfolding_all rfl))
    case hy18 => (intro X hX; go_simp; try with_reducible rfl)
    try simp only [Act.put, List.setIfInBounds_toArray, List.set_cons_zero, List.set_cons_succ]
    refine wpAnyG_takeG 15 (oi := ?o19) ?v19 ?hi19 (by kernel_rfl) (by kernel_rfl) (by decide) (by kernel_rfl) (by kernel_rfl) ?hq19 ?hg19 ?hy19 (by assumption) ?hk19
    case hi19 => (simp only [List.getElem?_toArray, List.getElem?_cons_succ, List.getElem?_cons_zero]; rfl)
    case hq19 => exact fun _ _ _ h => h
    case hg19 => (first | with_unfolding_all rfl | (go_simp; with_unfolding_all rfl))
    case hy19 => (intro X hX; go_simp; try with_reducible rfl)
    try simp only [Act.put, List.setIfInBounds_toArray, List.set_cons_zero, List.set_cons_succ]
    refine wpAnyG_takeG 16 (oi := ?o20) ?v20 ?hi20 (by kernel_rfl) (by kernel_rfl) (by decide) (by kernel_rfl) (by kernel_rfl) ?hq20 ?hg20 ?hy20 (by assumption) ?hk20
    case hi20 => (simp only [List.getElem?_toArray, List.getElem?_cons_succ, List.getElem?_cons_zero]; rfl)
    case hq20 => exact fun _ _ _ h => h
    case hg20 => (first | with_unfolding_all rfl | (go_simp; with_unfolding_all rfl))
    case hy20 => (intro X hX; go_simp; try with_reducible rfl)
    try simp only [Act.put, List.setIfInBounds_toArray, List.set_cons_zero, List.set_cons_succ]
    refine wpAnyG_takeG 17 (oi := ?o21) ?v21 ?hi21 (by kernel_rfl) (by kernel_rfl) (by decide) (by kernel_rfl) (by kernel_rfl) ?hq21 ?hg21 ?hy21 (by assumption) ?hk21
    case hi21 => (simp only [List.getElem?_toArray, List.getElem?_cons_succ, List.getElem?_cons_zero]; rfl)
    case hq21 => exact fun _ _ _ h => h
    case hg21 => (first | with_unfolding_all rfl | (go_simp; with_unfolding_all rfl))
    case hy21 => (intro X hX; go_simp; try with_reducible rfl)
    try simp only [Act.put, List.setIfInBounds_toArray, List.set_cons_zero, List.set_cons_succ]
    refine wpAnyG_takeG 18 (oi := ?o22) ?v22 ?hi22 (by kernel_rfl) (by kernel_rfl) (by decide) (by kernel_rfl) (by kernel_rfl) ?hq22 ?hg22 ?hy22 (by assumption) ?hk22
    case hi22 => (simp only [List.getElem?_toArray, List.getElem?_cons_succ, List.getElem?_cons_zero]; rfl)
    case hq22 => exact fun _ _ _ h => h
    case hg22 => (first | with_unfolding_all rfl | (go_simp; with_unfolding_all rfl))
    case hy22 => (intro X hX; go_simp; try with_reducible rfl)
    try simp only [Act.put, List.setIfInBounds_toArray, List.set_cons_zero, List.set_cons_succ]
    refine wpAnyG_takeG 20 (oi := ?o23) ?v23 ?hi23 (by kernel_rfl) (by kernel_rfl) (by decide) (by kernel_rfl) (by kernel_rfl) ?hq23 ?hg23 ?hy23 (by assumption) ?hk23
    case hi23 => (simp only [List.getElem?_toArray, List.getElem?_cons_succ, List.getElem?_cons_zero]; rfl)
    case hq23 => exact fun _ _ _ h => h
    case hg23 => (first | with_unfolding_all rfl | (go_simp; with_unfolding_all rfl))
    case hy23 => (intro X hX; go_simp; try with_reducible rfl)
    try simp only [Act.put, List.setIfInBounds_toArray, List.set_cons_zero, List.set_cons_succ]
    refine wpAnyG_takeG 23 (oi := ?o24) ?v24 ?hi24 (by kernel_rfl) (by kernel_rfl) (by decide) (by kernel_rfl) (by kernel_rfl) ?hq24 ?hg24 ?hy24 (by assumption) ?hk24
    case hi24 => (simp only [List.getElem?_toArray, List.getElem?_cons_succ, List.getElem?_cons_zero]; rfl)
    case hq24 => exact fun _ _ _ h => h
    case hg24 => (first | with_unfolding_all rfl | (go_simp; with_unfolding_all rfl))
    case hy24 => (intro X hX; go_simp; try with_reducible rfl)
    try simp only [Act.put, List.setIfInBounds_toArray, List.set_cons_zero, List.set_cons_succ]
    refine wpAnyG_takeG 24 (oi := ?o25) ?v25 ?hi25 (by kernel_rfl) (by kernel_rfl) (by decide) (by kernel_rfl) (by kernel_rfl) ?hq25 ?hg25 ?hy25 (by assumption) ?hk25
    case hi25 => (simp only [List.getElem?_toArray, List.getElem?_cons_succ, List.getElem?_cons_zero]; rfl)
    case hq25 => exact fun _ _ _ h => h
    case hg25 => (first | with_unfolding_all rfl | (go_simp; with_unfolding_all rfl))
    case hy25 => (intro X hX; go_simp; try with_reducible rfl)
    try simp only [Act.put, List.setIfInBounds_toArray, List.set_cons_zero, List.set_cons_succ]
    refine wpAnyG_takeG 19 (oi := ?o26) ?v26 ?hi26 (by kernel_rfl) (by kernel_rfl) (by decide) (by kernel_rfl) (by kernel_rfl) ?hq26 ?hg26 ?hy26 (by assumption) ?hk26
    case hi26 => (simp only [List.getElem?_toArray, List.getElem?_cons_succ, List.getElem?_cons_zero]; rfl)
    case hq26 => exact fun _ _ _ h => h
    case hg26 => (first | with_unfolding_all rfl | (go_simp; with_unfolding_all rfl))
    case hy26 => (intro X hX; go_simp; try with_reducible rfl)
    try simp only [Act.put, List.setIfInBounds_toArray, List.set_cons_zero, List.set_cons_succ]
    refine wpAnyG_takeG 25 (oi := ?o27) ?v27 ?hi27 (by kernel_rfl) (by kernel_rfl) (by decide) (by kernel_rfl) (by kernel_rfl) ?hq27 ?hg27 ?hy27 (by assumption) ?hk27
    case hi27 => (simp only [List.getElem?_toArray, List.getElem?_cons_succ, List.getElem?_cons_zero]; rfl)
    case hq27 => exact fun _ _ _ h => h
    case hg27 => (first | with_unfolding_all rfl | (go_simp; with_unfolding_all rfl))
    case hy27 => (intro X hX; go_simp; try with_reducible rfl)
    try simp only [Act.put, List.setIfInBounds_toArray, List.set_cons_zero, List.set_cons_succ]
    refine wpAnyG_takeG 21 (oi := ?o28) ?v28 ?hi28 (by kernel_rfl) (by kernel_rfl) (by decide) (by kernel_rfl) (by kernel_rfl) ?hq28 ?hg28 ?hy28 (by assumption) ?hk28
    case hi28 => (simp only [List.getElem?_toArray, List.getElem?_cons_succ, List.getElem?_cons_zero]; rfl)
    case hq28 => exact fun _ _ _ h => h
    case hg28 => (first | with_unfolding_all rfl | (go_simp; with_unfolding_all rfl))
    case hy28 => (intro X hX; go_simp; try with_reducible rfl)
    try simp only [Act.put, List.setIfInBounds_toArray, List.set_cons_zero, List.set_cons_succ]
    refine wpAnyG_oneG 22 (o := ?o29) (by kernel_rfl) ?hi29 ?hg29 ?hk29
    case hi29 => (simp only [List.getElem?_toArray, List.getElem?_cons_succ, List.getElem?_cons_zero]; rfl)
    case hg29 => with_unfolding_all rfl
    intro K hK
    go_simp
    rw [show ((s.length : Int) - (k : Int)) = ((s.length - k : Nat) : Int) by omega, show IntKind.i64.wrap ((s.length - k : Nat) : Int) = ((s.length - k : Nat) : Int) by rw [IntKind.wrap_i64]; omega]
    refine (bytes_ok Hr6.out (s.length - k) (by omega) (by omega)).mono ?_
    rintro e w7 ⟨rfl, hr7, hu7⟩
    rw [E7.out]
    rw [E8.out] at hr7
    have Hr7 := Lib.hid hr7
    have b17 := b16.trans (hu7.below hb1.size b16.size)
    clear hr7
    refine hK.out _ _ (fun _ => trivial) (fun _ => ?_)
    clear hK K
    try simp only [Act.put, List.setIfInBounds_toArray, List.set_cons_zero, List.set_cons_succ]
    refine wpAnyG_takeG 26 (oi := ?o31) ?v31 ?hi31 (by kernel_rfl) (by kernel_rfl) (by decide) (by kernel_rfl) (by kernel_rfl) ?hq31 ?hg31 ?hy31 (by assumption) ?hk31
    case hi31 => (simp only [List.getElem?_toArray, List.getElem?_cons_succ, List.getElem?_cons_zero]; rfl)
    case hq31 => exact fun _ _ _ h => h
    case hg31 => (first | with_unfolding_all rfl | (go_simp; with_unfolding_all rfl))
    case hy31 => (intro X hX; go_simp; try with_reducible rfl)
    try simp only [Act.put, List.setIfInBounds_toArray, List.set_cons_zero, List.set_cons_succ]
    refine wpAnyG_takeG 27 (oi := ?o32) ?v32 ?hi32 (by kernel_rfl) (by kernel_rfl) (by decide) (by kernel_rfl) (by kernel_rfl) ?hq32 ?hg32 ?hy32 (by assumption) ?hk32
    case hi32 => (simp only [List.getElem?_toArray, List.getElem?_cons_succ, List.getElem?_cons_zero]; rfl)
    case hq32 => exact fun _ _ _ h => h
    case hg32 => (first | with_unfolding_all rfl | (go_simp; with_unfolding_all rfl))
    case hy32 => (intro X hX; go_simp; try with_reducible rfl)
    try simp only [Act.put, List.setIfInBounds_toArray, List.set_cons_zero, List.set_cons_succ]
    refine wpAnyG_takeG 28 (oi := ?o33) ?v33 ?hi33 (by kernel_rfl) (by kernel_rfl) (by decide) (by kernel_rfl) (by kernel_rfl) ?hq33 ?hg33 ?hy33 (by assumption) ?hk33
    case hi33 => (simp only [List.getElem?_toArray, List.getElem?_cons_succ, List.getElem?_cons_zero]; rfl)
    case hq33 => exact fun _ _ _ h => h
    case hg33 => (first | with_unfolding_all rfl | (go_simp; with_unfolding_all rfl))
    case hy33 => (intro X hX; go_simp; try with_reducible rfl)
    try simp only [Act.put, List.setIfInBounds_toArray, List.set_cons_zero, List.set_cons_succ]
    refine wpAnyG_takeG 29 (oi := ?o34) ?v34 ?hi34 (by kernel_rfl) (by kernel_rfl) (by decide) (by kernel_rfl) (by kernel_rfl) ?hq34 ?hg34 ?hy34 (by assumption) ?hk34
    case hi34 => (simp only [List.getElem?_toArray, List.getElem?_cons_succ, List.getElem?_cons_zero]; rfl)
    case hq34 => exact fun _ _ _ h => h
    case hg34 => (first | with_unfolding_all rfl | (go_simp; with_unfolding_all rfl))
    case hy34 => (intro X hX; go_simp; try with_reducible rfl)
    try simp only [Act.put, List.setIfInBounds_toArray, List.set_cons_zero, List.set_cons_succ]
    refine wpAnyG_oneG 30 (o := ?o35) (by kernel_rfl) ?hi35 ?hg35 ?hk35
    case hi35 => (simp only [List.getElem?_toArray, List.getElem?_cons_succ, List.getElem?_cons_zero]; rfl)
    case hg35 => with_unfolding_all rfl
    intro K hK
    go_simp
    refine (err_any Hr7.out).mono ?_
    rintro e w8 ⟨rfl, rfl⟩
    refine hK.out _ _ (fun _ => trivial) (fun _ => ?_)
    clear hK K
    try simp only [Act.put, List.setIfInBounds_toArray, List.set_cons_zero, List.set_cons_succ]
    refine wpAnyG_takeG 31 (oi := ?o37) ?v37 ?hi37 (by kernel_rfl) (by kernel_rfl) (by decide) (by kernel_rfl) (by kernel_rfl) ?hq37 ?hg37 ?hy37 (by assumption) ?hk37
    case hi37 => (simp only [List.getElem?_toArray, List.getElem?_cons_succ, List.getElem?_cons_zero]; rfl)
    case hq37 => exact fun _ _ _ h => h
    case hg37 => (first | with_unfolding_all rfl | (go_simp; with_unfolding_all rfl))
    case hy37 => (intro X hX; go_simp; try with_reducible rfl)
    try simp only [Act.put, List.setIfInBounds_toArray, List.set_cons_zero, List.set_cons_succ]
    refine wpAnyG_takeG 32 (oi := ?o38) ?v38 ?hi38 (by kernel_rfl) (by kernel_rfl) (by decide) (by kernel_rfl) (by kernel_rfl) ?hq38 ?hg38 ?hy38 (by assumption) ?hk38
    case hi38 => (simp only [List.getElem?_toArray, List.getElem?_cons_succ, List.getElem?_cons_zero]; rfl)
    case hq38 => exact fun _ _ _ h => h
    case hg38 => (first | with_unfolding_all rfl | (go_simp; with_unfolding_all rfl))
    case hy38 => (intro X hX; go_simp; try with_reducible rfl)
    try simp only [Act.put, List.setIfInBounds_toArray, List.set_cons_zero, List.set_cons_succ]
    refine wpAnyG_takeG 33 (oi := ?o39) ?v39 ?hi39 (by kernel_rfl) (by kernel_rfl) (by decide) (by kernel_rfl) (by kernel_rfl) ?hq39 ?hg39 ?hy39 (by assumption) ?hk39
    case hi39 => (simp only [List.getElem?_toArray, List.getElem?_cons_succ, List.getElem?_cons_zero]; rfl)
    case hq39 => exact fun _ _ _ h => h
    case hg39 => (first | with_unfolding_all rfl | (go_simp; with_unfolding_all rfl))
    case hy39 => (intro X hX; go_simp; try with_reducible rfl)
    try simp only [Act.put, List.setIfInBounds_toArray, List.set_cons_zero, List.set_cons_succ]
    refine wpAnyG_takeG 34 (oi := ?o40) ?v40 ?hi40 (by kernel_rfl) (by kernel_rfl) (by decide) (by kernel_rfl) (by kernel_rfl) ?hq40 ?hg40 ?hy40 (by assumption) ?hk40
    case hi40 => (simp only [List.getElem?_toArray, List.getElem?_cons_succ, List.getElem?_cons_zero]; rfl)
    case hq40 => exact fun _ _ _ h => h
    case hg40 => (first | with_unfolding_all rfl | (go_simp; with_unfolding_all rfl))
    case hy40 => (intro X hX; go_simp; try with_reducible rfl)
    try simp only [Act.put, List.setIfInBounds_toArray, List.set_cons_zero, List.set_cons_succ]
    refine wpAnyG_takeG 36 (oi := ?o41) ?v41 ?hi41 (by kernel_rfl) (by kernel_rfl) (by decide) (by kernel_rfl) (by kernel_rfl) ?hq41 ?hg41 ?hy41 (by assumption) ?hk41
    case hi41 => (simp only [List.getElem?_toArray, List.getElem?_cons_succ, List.getElem?_cons_zero]; rfl)
    case hq41 => exact fun _ _ _ h => h
    case hg41 => (first | with_unfolding_all rfl | (go_simp; with_unfolding_all rfl))
    case hy41 => (intro X hX; go_simp; try with_reducible rfl)
    try simp only [Act.put, List.setIfInBounds_toArray, List.set_cons_zero, List.set_cons_succ]
    refine wpAnyG_takeG 37 (oi := ?o42) ?v42 ?hi42 (by kernel_rfl) (by kernel_rfl) (by decide) (by kernel_rfl) (by kernel_rfl) ?hq42 ?hg42 ?hy42 (by assumption) ?hk42
    case hi42 => (simp only [List.getElem?_toArray, List.getElem?_cons_succ, List.getElem?_cons_zero]; rfl)
    case hq42 => exact fun _ _ _ h => h
    case hg42 => (first | with_unfolding_all rfl | (go_simp; with_unfolding_all rfl))
    case hy42 => (intro X hX; go_simp; try with_reducible rfl)
    try simp only [Act.put, List.setIfInBounds_toArray, List.set_cons_zero, List.set_cons_succ]
    refine wpAnyG_takeG 38 (oi := ?o43) ?v43 ?hi43 (by kernel_rfl) (by kernel_rfl) (by decide) (by kernel_rfl) (by kernel_rfl) ?hq43 ?hg43 ?hy43 (by assumption) ?hk43
    case hi43 => (simp only [List.getElem?_toArray, List.getElem?_cons_succ, List.getElem?_cons_zero]; rfl)
    case hq43 => exact fun _ _ _ h => h
    case hg43 => (first | with_unfolding_all rfl | (go_simp; with_unfolding_all rfl))
    case hy43 => (intro X hX; go_simp; try with_reducible rfl)
    try simp only [Act.put, List.setIfInBounds_toArray, List.set_cons_zero, List.set_cons_succ]
    refine wpAnyG_oneG 35 (o := ?o44) (by kernel_rfl) ?hi44 ?hg44 ?hk44
    case hi44 => (simp only [List.getElem?_toArray, List.getElem?_cons_succ, List.getElem?_cons_zero]; rfl)
    case hg44 => with_unfolding_all rfl
    intro K hK
    go_simp
    refine (at_any Hr7.out (by omega)).mono ?_
    rintro e w8 ⟨rfl, hb8⟩
    refine hK.out _ _ (fun _ => trivial) (fun _ => ?_)
    clear hK K
    try simp only [Act.put, List.setIfInBounds_toArray, List.set_cons_zero, List.set_cons_succ]
    refine wpAnyG_takeG 39 (oi := ?o46) ?v46 ?hi46 (by kernel_rfl) (by kernel_rfl) (by decide) (by kernel_rfl) (by kernel_rfl) ?hq46 ?hg46 ?hy46 (by assumption) ?hk46
    case hi46 => (simp only [List.getElem?_toArray, List.getElem?_cons_succ, List.getElem?_cons_zero]; rfl)
    case hq46 => exact fun _ _ _ h => h
    case hg46 => (first | with_unfolding_all rfl | (go_simp; with_unfolding_all rfl))
    case hy46 => (intro X hX; go_simp; try with_reducible rfl)
    try simp only [Act.put, List.setIfInBounds_toArray, List.set_cons_zero, List.set_cons_succ]
    refine wpAnyG_takeG 40 (oi := ?o47) ?v47 ?hi47 (by kernel_rfl) (by kernel_rfl) (by decide) (by kernel_rfl) (by kernel_rfl) ?hq47 ?hg47 ?hy47 (by assumption) ?hk47
    case hi47 => (simp only [List.getElem?_toArray, List.getElem?_cons_succ, List.getElem?_cons_zero]; rfl)
    case hq47 => exact fun _ _ _ h => h
    case hg47 => (first | with_unfolding_all rfl | (go_simp; with_unfolding_all rfl))
    case hy47 => (intro X hX; go_simp; try with_reducible rfl)
    try simp only [Act.put, List.setIfInBounds_toArray, List.set_cons_zero, List.set_cons_succ]
    refine wpAnyG_one 41 (o := ?o48) (by kernel_rfl) ?hi48 ?hg48 ?hk48
    case hi48 => (simp only [List.getElem?_toArray, List.getElem?_cons_succ, List.getElem?_cons_zero]; rfl)
    case hg48 => rfl
    intro K hK
    go_simp
    refine hK.out _ _ (fun h => absurd rfl h) (fun _ => ?_)
    refine wpAnyG_done (by kernel_rfl) ?_ _
    clear hK K
    go_wp2_with fail
    go_ret
    have hfin : ((100 + (s.length : Int)) == IntKind.i64.wrap (100 + (s.length : Int))) = true := by
      rw [beq_iff_eq, IntKind.wrap_i64]; omega
    refine ⟨?_, b17.trans (hb8.mono b17.size)⟩
    rw [hfin]; rfl
  · go_enter Tryd.func4, Tryd.ntmps4
    go_wp2_with fail
    refine (wired_any _).mono ?_
    rintro e w1 ⟨rfl, hb1⟩
    go_wp2_with fail
    go_ret
    exact ⟨rfl, hb1⟩
end Go.Proofs.YtdeaednccdoklaaDoor

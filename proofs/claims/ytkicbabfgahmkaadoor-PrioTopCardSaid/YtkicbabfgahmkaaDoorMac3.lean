/- mac: Parse. -/
import Derived.Test.YtkicbabfgahmkaaDoorMac2
import Derived.Test.YtkicbabfgahmkaaDoorPb3
import Derived.Test.YtkicbabfgahmkaaDoorRet2
import Derived.Test.YtkicbabfgahmkaaDoorMaxL
set_option linter.all false
namespace Go.Proofs.YtkicbabfgahmkaaDoor
open Go.RowKit
def adV : Option Ad → Value
  | some a => .tuple #[.agg a.vals.toArray, .nilIface]
  | none => .tuple #[.agg Ad.zero.vals.toArray, .iface 80 (.int .i64 3)]
theorem split_any (s : List UInt8) (hs : s.length ≤ 1000000) (w : World) (hm : MaxL w) :
    Calls Tryd.prog 45 #[.string ⟨s.toArray⟩, .string ⟨#[58]⟩] w fun e w' => e = .returned (.slice (some ⟨w.heap.size, 0, none⟩) (sp s).length (sp s).length) ∧ w' = w.alloc (.cells (strC (sp s)).toArray 9) := by
  obtain ⟨m, hm⟩ := hm
  have hk := splitK_sp s
  have hd := Lib.splitB_data ⟨#[58]⟩ 0 (Lib.countB ⟨s.toArray⟩ ⟨#[58]⟩) ⟨s.toArray⟩
  have hc : Lib.countB ⟨s.toArray⟩ ⟨#[58]⟩ = Lib.count s [58] := rfl
  have hd2 : (Lib.splitB ⟨#[58]⟩ 0 (Lib.countB ⟨s.toArray⟩ ⟨#[58]⟩) ⟨s.toArray⟩).map (·.data.toList) = sp s := by
    rw [hd, hc]; exact hk
  have hl : (sp s).length = Lib.countB ⟨s.toArray⟩ ⟨#[58]⟩ + 1 := by
    rw [← hd2, List.length_map]
    exact Lib.splitB_all ⟨#[58]⟩ (by decide) 0 _ _ rfl
  have hv : (Lib.splitB ⟨#[58]⟩ 0 (Lib.countB ⟨s.toArray⟩ ⟨#[58]⟩) ⟨s.toArray⟩).map Value.string = strC (sp s) := by
    rw [← hd2, strC, List.map_map]
    exact List.map_congr_left (fun x _ => rfl)
  have := Tryd.strings_Split ⟨s.toArray⟩ ⟨#[58]⟩ m w (by show s.toArray.size < _; simp; omega) hm (by decide)
  rw [hv, ← hl] at this
  exact this
theorem ixb_any (c : UInt8) (w : World) : Calls Tryd.prog 46 #[.string ⟨#[48, 49, 50, 51, 52, 53, 54, 55, 56, 57, 97, 98, 99, 100, 101, 102]⟩, .int .u8 (c.toNat : Int)] w fun e w' => e = .returned (.int .i64 (hexI c)) ∧ w' = w := by
  have := Tryd.strings_IndexByte ⟨#[48, 49, 50, 51, 52, 53, 54, 55, 56, 57, 97, 98, 99, 100, 101, 102]⟩ (c.toNat : Int) w
  have e : (c.toNat : Int).toNat.toUInt8 = c := by simp
  rw [e] at this
  exact this
theorem of_snoc (vs : List UInt8) (c : UInt8) (h : vs.length < 6) : (Ad.of vs).vals.set vs.length (.int .u8 c.toNat) = (Ad.of (vs ++ [c])).vals := by
  match vs, h with
  | [], _ | [_], _ | [_, _], _ | [_, _, _], _ | [_, _, _, _], _ | [_, _, _, _, _], _ => rfl
  | _ :: _ :: _ :: _ :: _ :: _ :: _, h => simp at h; omega
theorem ad_built0 : Tryd.prog.built 23 [] = some Ad.zero.vals.toArray := by kernel_rfl
set_option maxRecDepth 100000 in
set_option maxHeartbeats 2000000 in
theorem mparse_any (s : List UInt8) (hs : s.length ≤ 1000000) (w : World) (hm : MaxL w) :
    Calls Tryd.prog 15 #[.string ⟨s.toArray⟩] w fun e w' => e = .returned (adV (Ad.ofText s)) ∧ Below w.heap.size w w' := by
  have H0 := Lib.hid ((St.init w).alloc2 [.int .u8 0, .int .u8 0, .int .u8 0, .int .u8 0, .int .u8 0, .int .u8 0] [.int .u8 0, .int .u8 0, .int .u8 0, .int .u8 0, .int .u8 0, .int .u8 0] 23 23)
  have hgo : Ad.ofText s = if (sp s).length = 6 then (pairs (sp s)).map Ad.of else none := rfl
  have HM := Lib.hid (hm.ext H0.out.below)
  have HS := fun W h => Lib.hid (split_any s hs W h)
  generalize Ad.ofText s = O at *
  generalize sp s = S at *
  obtain ⟨n, hn⟩ : ∃ n, S.length = n := ⟨_, rfl⟩
  rw [hn] at HS hgo
  have Hgo := Lib.hid hgo
  have Hn := Lib.hid hn
  clear hgo hn hm
  go_enter Tryd.func15, Tryd.ntmps15
  go_upto_region 2 with (fail)
  generalize World.alloc (World.alloc _ _) _ = W2 at *
  have H0 : Hid (St w.heap.size w W2 (bk (w.heap.size + 1) 23 (Ad.of []).vals :: bk w.heap.size 23 Ad.zero.vals :: [])) := H0
  have HC := HS W2 HM.out
  go_upto_region 3 with (first
    | (go_at_call 45; go_must (refine HC.out.mono ?_; rintro e w3 ⟨rfl, rfl⟩)))
  have H3 := Lib.hid (H0.out.alloc (strC S) 9)
  generalize World.alloc W2 _ = w3 at *
  by_cases h6 : n = 6
  rotate_left
  · have hne : ((n : Int) != 6) = true := by simp; omega
    have HOn : Hid (O = none) := Lib.hid (by rw [Hgo.out, if_neg h6])
    clear h6
    have B9 := Lib.hid (H3.out.at 2 rfl)
    go_wp2_with (first
      | (with_reducible refine wpList_buildA (t := 23) [] Ad.zero.vals (by with_unfolding_all rfl) ad_built0 ?_)
      | (with_reducible refine wpList_store_blk (ty := 23) (o := 0) _ Ad.zero.vals (by with_unfolding_all rfl) (by with_unfolding_all rfl) B9.out (by with_unfolding_all exact Nat.le_refl _) (by with_unfolding_all exact info23) (Ad.one _) (fun W9 hBW9 hoW9 => ?_)))
    have h9 := (H3.out.pull 2 rfl).sets (L' := Ad.zero.vals) hBW9 hoW9
    exact ret_cell2 (cs := Ad.zero.vals) Tryd.results15 (by rfl) (by rfl) (Blk.box h9.head).range Tryd.underlying23 rfl info23 rfl ⟨by rw [HOn.out]; rfl, h9.below⟩
  have hne : ((n : Int) != 6) = false := by simp; omega
  have H6 := Lib.hid h6
  clear h6
  generalize W2.heap.size = gS at *
  go_upto_region 6 with (fail)
  go_loopw [19] (fun s19 wr => ∃ (k : Nat) (vs : List UInt8), k ≤ n ∧ s19 = .int .i64 (k : Int) ∧ Hid (vs.length = k ∧ pairs (S.take k) = some vs) ∧ Hid (St w.heap.size w wr (bk gS 9 (strC S) :: bk (w.heap.size + 1) 23 (Ad.of vs).vals :: bk w.heap.size 23 Ad.zero.vals :: []))) (fun i _ => n - (intOf i).toNat)
  case atStart => exact ⟨0, [], by omega, rfl, Lib.hid ⟨rfl, rfl⟩, H3⟩
  case round =>
    obtain ⟨k, vs, hk0, rfl, Hv, HR⟩ := hrel
    by_cases hlt : k < n
    · have hkS : k < S.length := by rw [Hn.out]; exact hlt
      obtain ⟨x, hx⟩ : ∃ x, S[k]? = some x := ⟨_, List.getElem?_eq_getElem hkS⟩
      have hcx : wr.cell? ⟨gS, k, none⟩ = some (.string ⟨x.toArray⟩) := by
        rw [HR.out.cell k]
        simp [strC, hx]
      have Hx := Lib.hid hx
      have hn6 := H6.out
      have hI6 : (k : Int) < 6 := by omega
      have hIn : (k : Int) < n := by omega
      clear hx hkS hn6
      by_cases hl2 : x.length = 2
      rotate_left
      · have hl2' : ((x.length : Int) != 2) = true := by simp; omega
        have HOn : Hid (O = none) := Lib.hid (by
          have hp : pairM x = none := by
            match x, hl2 with
            | [], _ | [_], _ | _ :: _ :: _ :: _, _ => rfl
            | [_, _], h => exact absurd rfl h
          rw [Hgo.out, if_pos H6.out, pairs_none S k x Hx.out hp]; rfl)
        clear hl2
        have B9 := Lib.hid (HR.out.at 2 rfl)
        go_wp2_with (first
          | (with_reducible refine wpList_buildA (t := 23) [] Ad.zero.vals (by with_unfolding_all rfl) ad_built0 ?_)
          | (with_reducible refine wpList_store_blk (ty := 23) (o := 0) _ Ad.zero.vals (by with_unfolding_all rfl) (by with_unfolding_all rfl) B9.out (by with_unfolding_all exact Nat.le_refl _) (by with_unfolding_all exact info23) (Ad.one _) (fun W9 hBW9 hoW9 => ?_)))
        have h9 := (HR.out.pull 2 rfl).sets (L' := Ad.zero.vals) hBW9 hoW9
        exact ret_cell2 (cs := Ad.zero.vals) Tryd.results15 (by rfl) (by rfl) (Blk.box h9.head).range Tryd.underlying23 rfl info23 rfl ⟨by rw [HOn.out]; rfl, h9.below⟩
      match x, hl2 with
      | [a, b], _ =>
        clear hl2
        have ia := ixb_any a
        have ib := ixb_any b
        obtain ⟨a1, a2, _⟩ := hexI_one a
        obtain ⟨b1, b2, _⟩ := hexI_one b
        have hpm : pairM [a, b] = if hexI a < 0 then none else if hexI b < 0 then none else some (UInt8.ofNat ((hexI a).toNat * 16 + (hexI b).toNat)) := rfl
        have Hpm := Lib.hid hpm
        clear hpm
        generalize hexI a = p at *
        generalize hexI b = q at *
        go_upto_region 10 with (fail)
        have l0 := (HR.out.at 0 rfl).lt
        refine wp_region_ext (by kernel_rfl) (by kernel_rfl) ?_
        repeat (go_big_quiet_step (first
          | (go_at_call 46; exact Calls.ext_eq _ (ia _))
          | (go_at_call 46; exact Calls.ext_eq _ (ib _))))
        refine wpQuiet_nil ?_
        rintro w5 ⟨⟨_, hb5⟩, rfl⟩
        try simp only [] at *
        have H5 := Lib.hid (HR.out.ext hb5)
        clear HR hb5 ia ib hcx l0
        by_cases hp : p < 0
        · have HOn : Hid (O = none) := Lib.hid (by
            rw [Hgo.out, if_pos H6.out, pairs_none S k _ Hx.out (by rw [Hpm.out, if_pos hp])]; rfl)
          have B9 := Lib.hid (H5.out.at 2 rfl)
          go_wp2_with (first
            | (with_reducible refine wpList_buildA (t := 23) [] Ad.zero.vals (by with_unfolding_all rfl) ad_built0 ?_)
            | (with_reducible refine wpList_store_blk (ty := 23) (o := 0) _ Ad.zero.vals (by with_unfolding_all rfl) (by with_unfolding_all rfl) B9.out (by with_unfolding_all exact Nat.le_refl _) (by with_unfolding_all exact info23) (Ad.one _) (fun W9 hBW9 hoW9 => ?_)))
          have h9 := (H5.out.pull 2 rfl).sets (L' := Ad.zero.vals) hBW9 hoW9
          exact ret_cell2 (cs := Ad.zero.vals) Tryd.results15 (by rfl) (by rfl) (Blk.box h9.head).range Tryd.underlying23 rfl info23 rfl ⟨by rw [HOn.out]; rfl, h9.below⟩
        by_cases hq : q < 0
        · have HOn : Hid (O = none) := Lib.hid (by
            rw [Hgo.out, if_pos H6.out, pairs_none S k _ Hx.out (by rw [Hpm.out, if_neg hp, if_pos hq])]; rfl)
          have B9 := Lib.hid (H5.out.at 2 rfl)
          go_wp2_with (first
            | (with_reducible refine wpList_buildA (t := 23) [] Ad.zero.vals (by with_unfolding_all rfl) ad_built0 ?_)
            | (with_reducible refine wpList_store_blk (ty := 23) (o := 0) _ Ad.zero.vals (by with_unfolding_all rfl) (by with_unfolding_all rfl) B9.out (by with_unfolding_all exact Nat.le_refl _) (by with_unfolding_all exact info23) (Ad.one _) (fun W9 hBW9 hoW9 => ?_)))
          have h9 := (H5.out.pull 2 rfl).sets (L' := Ad.zero.vals) hBW9 hoW9
          exact ret_cell2 (cs := Ad.zero.vals) Tryd.results15 (by rfl) (by rfl) (Blk.box h9.head).range Tryd.underlying23 rfl info23 rfl ⟨by rw [HOn.out]; rfl, h9.below⟩
        obtain ⟨p, rfl⟩ := Int.eq_ofNat_of_zero_le (show 0 ≤ p by omega)
        obtain ⟨q, rfl⟩ := Int.eq_ofNat_of_zero_le (show 0 ≤ q by omega)
        have hpm : pairM [a, b] = some (UInt8.ofNat (p * 16 + q)) := by
          rw [Hpm.out, if_neg hp, if_neg hq]; rfl
        have hcn : (UInt8.ofNat (p * 16 + q)).toNat = p * 16 + q := by rw [UInt8.toNat_ofNat']; omega
        have hor : bits .or .i64 ((p : Int) * 16) (q : Int) = ((p * 16 + q : Nat) : Int) := by
          rw [show (p : Int) * 16 = ((2 ^ 4 * p : Nat) : Int) by omega]
          rw [or_sum p 4 q (by omega) (by omega)]; congr 1; omega
        generalize UInt8.ofNat (p * 16 + q) = c at *
        have hz : p * 16 + q < 256 := by omega
        have Hcn := Lib.hid hcn
        clear hcn
        generalize p * 16 + q = z at *
        have h5 := H5.out.pull 1 rfl
        have hvl := Hv.out.1
        have H5' := Lib.hid h5
        have hcA : w5.cell? ⟨w.heap.size + 1, k, none⟩ = some ((Ad.of vs).vals.getD k .nilIface) := by
          rw [h5.cell k]
          have : k < (Ad.of vs).vals.length := by show k < 6; omega
          simp [this]
        have hfA := h5.frozen k
        generalize (Ad.of vs).vals.getD k .nilIface = old at hcA
        clear h5 hvl
        have hset := H5'.out.set k (.int .u8 (c.toNat : Int)) (by show k < 6; omega)
        have hsn : (Ad.of vs).vals.set k (.int .u8 (c.toNat : Int)) = (Ad.of (vs ++ [c])).vals := by
          have := of_snoc vs c (by rw [Hv.out.1]; omega)
          rwa [Hv.out.1] at this
        rw [hsn, Hcn.out] at hset
        have Hset := Lib.hid (hset.pull 1 rfl)
        have Hv2 : Hid ((vs ++ [c]).length = k + 1 ∧ pairs (S.take (k + 1)) = some (vs ++ [c])) := Lib.hid ⟨by simp [Hv.out.1], by
          rw [List.take_succ, Hx.out]
          exact pairs_snoc _ _ _ _ Hv.out.2 hpm⟩
        clear hset hsn
        go_wp2_with fail
        go_roundw
        case rel => exact ⟨k + 1, vs ++ [c], by omega, by go_num, Hv2, Hset⟩
        case measure => simp [intOf]; omega
    · obtain rfl : k = n := by omega
      have hIn : ¬ (k : Int) < k := by omega
      have hO : O = some (Ad.of vs) := by
        rw [Hgo.out, if_pos H6.out]
        have := Hv.out.2
        rw [List.take_of_length_le (by rw [Hn.out]; exact Nat.le_refl _)] at this
        rw [this]; rfl
      have HOn := Lib.hid hO
      have hIn2 : ¬ (k : Int) < k := by omega
      have R1 := Lib.hid (Blk.box (HR.out.at 1 rfl)).range
      have B9 := Lib.hid (HR.out.at 2 rfl)
      generalize Ad.of vs = a at *
      go_wp2_with (first
        | (with_reducible refine wpList_load_rng (ty := 23) a.vals (by with_unfolding_all rfl) R1.out Tryd.underlying23 (by with_unfolding_all rfl) (by with_unfolding_all exact info23) ?_)
        | (with_reducible refine wpList_store_blk (ty := 23) (o := 0) _ a.vals (by with_unfolding_all rfl) (by with_unfolding_all rfl) B9.out (by with_unfolding_all exact Nat.le_refl _) (by with_unfolding_all exact info23) (Ad.one _) (fun W9 hBW9 hoW9 => ?_)))
      have h9 := (HR.out.pull 2 rfl).sets (L' := a.vals) hBW9 hoW9
      exact ret_cell2 (cs := a.vals) Tryd.results15 (by rfl) (by rfl) (Blk.box h9.head).range Tryd.underlying23 rfl info23 rfl ⟨by first | rfl | (rw [HOn.out]; rfl), h9.below⟩
end Go.Proofs.YtkicbabfgahmkaaDoor

/- lacp.ReadMark. -/
import Derived.Test.YteibhcocldihbaaDoorLacp6
namespace Go.Proofs.YteibhcocldihbaaDoor
open Go.RowKit
@[reducible] def zMk : List Value := [.bool false, .int .i64 0, .int .u8 0, .int .u8 0, .int .u8 0, .int .u8 0, .int .u8 0, .int .u8 0, .int .i64 0]
theorem zMk_one : ∀ v ∈ zMk, v.oneCell' = true := by decide
theorem mk_zero : Tryd.prog.built 25 [] = some zMk.toArray := by kernel_rfl
theorem mk_built2 (r : Bool) (p : Int) : Tryd.prog.built 25 [(0, .bool r), (1, .int .i64 p)] = some (Mk.vals ⟨r, p, Ad.of [], 0⟩).toArray := by kernel_rfl
def mkGot (s : List UInt8) (g : Nat) : Value := if (readMkM s).2.1 = true then .tuple #[.agg (readMkM s).1.vals.toArray, .nilIface] else .tuple #[.agg zMk.toArray, errV (readMkM s).2.2 g]
theorem fail_e {B : Nat} {w0 w : World} {A : List It} {b g : Nat} {R : RS} (H : St B w0 w (rd b R g :: A)) (e p : Int) :
    Calls Tryd.prog 52 #[.pointer (some ⟨b, 0, none⟩), .int .i64 e, .int .i64 p] w fun r w' => r = .returned (.tuple #[]) ∧ RdTo B w0 b (failM R e p) A w' := fail_st H e p
set_option maxRecDepth 100000 in
set_option maxHeartbeats 2000000 in
theorem mkRead_any (s : List UInt8) (hs : s.length ≤ 4611686018427387904) (w : World) :
    Calls Tryd.prog 17 #[.string ⟨s.toArray⟩] w fun e w' => ∃ b g, e = .returned (mkGot s g) ∧ St w.heap.size w w' (rd b (readMkM s).2.2 g :: []) := by
  have H1 := Lib.hid ((St.init w).alloc zMk 25)
  go_enter Tryd.func17, Tryd.ntmps17
  go_upto_region 1 with (fail)
  unfold zMk at H1
  generalize World.alloc _ _ = w1 at *
  have H1 : Hid (St w.heap.size w w1 (bk w.heap.size 25 zMk :: [])) := H1
  go_wp2_with fail
  refine (new_st H1.out s 0 (by simpa using hs)).mono ?_
  rintro e w2 ⟨rfl, h2⟩
  have H2 := Lib.hid h2
  clear h2 H1
  generalize hb : w1.heap.size = b at *
  clear hb
  go_wp2_with fail
  refine (head_e H2.out [2, 1] (by decide)).mono ?_
  rintro e w3 ⟨R3, e3, rfl, g3, h3⟩
  have E3 := Lib.hid e3
  have H3 := Lib.hid h3
  clear e3 h3 H2
  go_wp2_with fail
  refine (at_st H3.out).mono ?_
  rintro e w4 ⟨rfl, h4⟩
  have H4 := Lib.hid h4
  clear h4 H3
  go_wp2_with fail
  refine (num_e H4.out 1 (by decide) (by decide)).mono ?_
  rintro e w5 ⟨n5, R5, e5, l5, rfl, g5, h5⟩
  have E5 := Lib.hid e5
  have H5 := Lib.hid h5
  clear e5 h5 H4
  go_upto_region 5 with (fail)
  obtain ⟨cond, hcd⟩ : ∃ c, decide (R5.err = none ∧ n5 ≠ 1 ∧ n5 ≠ 2) = c := ⟨_, rfl⟩
  have Hcd := Lib.hid hcd
  clear hcd
  go_cut [26] (fun c wx => c = .bool cond ∧ wx = w5)
  case first =>
    cases he : R5.err with
    | some x =>
      obtain rfl : cond = false := by rw [← Hcd.out, he]; simp
      have He := Lib.hid (errV_some he g5)
      clear he
      go_wp2_with (first
        | ((with_reducible refine (err_st H5.out).mono ?_)
           rintro e w6 ⟨rfl, rfl⟩
           rw [He.out]))
      go_meet
      exact ⟨rfl, rfl⟩
    | none =>
      have He := Lib.hid (errV_none he g5)
      by_cases h1 : n5 = 1
      · obtain rfl : cond = false := by rw [← Hcd.out, h1]; simp
        have hb1 : ((n5 : Int) != 1) = false := by rw [h1]; rfl
        clear he h1
        go_wp2_with (first
          | ((with_reducible refine (err_st H5.out).mono ?_)
             rintro e w6 ⟨rfl, rfl⟩
             rw [He.out]))
        go_meet
        exact ⟨rfl, rfl⟩
      · have hb1 : ((n5 : Int) != 1) = true := by rw [bne_iff_ne]; omega
        by_cases h2 : n5 = 2
        · obtain rfl : cond = false := by rw [← Hcd.out, h2]; simp
          have hb2 : ((n5 : Int) != 2) = false := by rw [h2]; rfl
          clear he h1 h2
          go_wp2_with (first
            | ((with_reducible refine (err_st H5.out).mono ?_)
               rintro e w6 ⟨rfl, rfl⟩
               rw [He.out]))
          go_meet
          exact ⟨rfl, rfl⟩
        · obtain rfl : cond = true := by rw [← Hcd.out, he]; simp [h1, h2]
          have hb2 : ((n5 : Int) != 2) = true := by rw [bne_iff_ne]; omega
          clear he h1 h2
          go_wp2_with (first
            | ((with_reducible refine (err_st H5.out).mono ?_)
               rintro e w6 ⟨rfl, rfl⟩
               rw [He.out]))
          go_meet
          exact ⟨rfl, rfl⟩
  case rest =>
  obtain ⟨rfl, rfl⟩ := hcut
  go_upto_if 26 with (fail)
  go_cut [] (fun wx => RdTo w.heap.size w b (if cond = true then failM R5 3 (R3.place : Int) else R5) [bk w.heap.size 25 zMk] wx)
  case first =>
    cases cond
    · go_wp2_with fail
      go_meet
      exact ⟨g5, H5.out⟩
    · go_wp2_with (first
        | ((with_reducible refine (fail_st H5.out 3 _).mono ?_)
           rintro e w6 ⟨rfl, h6⟩
           have H6 := Lib.hid h6
           clear h6))
      go_meet
      exact H6.out
  case rest =>
  have hR6 : (if cond = true then failM R5 3 (R3.place : Int) else R5) = if R5.err = none ∧ n5 ≠ 1 ∧ n5 ≠ 2 then failM R5 3 (R3.place : Int) else R5 := by
    rw [← Hcd.out]; simp only [decide_eq_true_eq]
  rw [hR6] at hcut
  obtain ⟨R6, e6⟩ : ∃ R', (if R5.err = none ∧ n5 ≠ 1 ∧ n5 ≠ 2 then failM R5 3 (R3.place : Int) else R5) = R' := ⟨_, rfl⟩
  rw [e6] at hcut
  obtain ⟨g6, h6⟩ := hcut
  have E6 := Lib.hid e6
  have H6 := Lib.hid h6
  clear e6 h6 hR6 H5
  generalize wc = w6 at *
  go_wp2_with fail
  refine (head_e H6.out [16] (by decide)).mono ?_
  rintro e w7 ⟨R7, e7, rfl, g7, h7⟩
  have E7 := Lib.hid e7
  have H7 := Lib.hid h7
  clear e7 h7 H6
  obtain ⟨rp, hrp⟩ : ∃ r, ((n5 : Int) == 2) = r := ⟨_, rfl⟩
  have Hrp := Lib.hid hrp
  go_wp2_with fail
  clear hrp
  refine (num_e H7.out 2 (by decide) (by decide)).mono ?_
  rintro e w8 ⟨n8, R8, e8, l8, rfl, g8, h8⟩
  have E8 := Lib.hid e8
  have H8 := Lib.hid h8
  clear e8 h8 H7
  go_upto_region 9 with (first
    | (with_reducible refine wpList_buildA (t := 25) [(0, .bool rp), (1, .int .i64 (n8 : Int))] (Mk.vals ⟨rp, n8, Ad.of [], 0⟩) (by with_unfolding_all rfl) (mk_built2 _ _) ?_)
    | (with_reducible refine wpList_store_blk (ty := 25) (o := 0) _ (Mk.vals ⟨rp, n8, Ad.of [], 0⟩) (by with_unfolding_all rfl) (by with_unfolding_all rfl) (Blk.new w8 zMk 25) (by with_unfolding_all exact Nat.le_refl _) (by with_unfolding_all exact info25) (Mk.one _) (fun W9 hBW9 hoW9 => ?_)))
  have H9 : Hid (St w.heap.size w W9 (rd b R8 g8 :: bk w8.heap.size 25 (Mk.vals ⟨rp, n8, Ad.of [], 0⟩) :: bk w.heap.size 25 zMk :: [])) := Lib.hid (((H8.out.alloc zMk 25).sets (L' := Mk.vals ⟨rp, n8, Ad.of [], 0⟩) hBW9 hoW9).swap)
  clear hBW9 hoW9 H8
  generalize hP : w8.heap.size = P at *
  clear hP
  refine wp_region_last (fun _ => True) 4 (by kernel_rfl) trivial (fun hHeld => ?_)
  refine wpAnyG_take 0 (oi := ?o9) ?v9 ?hi9 (by kernel_rfl) (by kernel_rfl) (by decide) (by kernel_rfl) (by kernel_rfl) ?hq9 ?hg9 ?hy9 (by assumption) ?hk9
  case hi9 => (simp only [List.getElem?_toArray, List.getElem?_cons_succ, List.getElem?_cons_zero]; rfl)
  case hq9 => exact fun _ _ _ h => h
  case hg9 => rfl
  case hy9 => (intro X hX; go_simp; try with_reducible rfl)
  try simp only [Act.put, List.setIfInBounds_toArray, List.set_cons_zero, List.set_cons_succ]
  refine wpAnyG_take 1 (oi := ?o10) ?v10 ?hi10 (by kernel_rfl) (by kernel_rfl) (by decide) (by kernel_rfl) (by kernel_rfl) ?hq10 ?hg10 ?hy10 (by assumption) ?hk10
  case hi10 => (simp only [List.getElem?_toArray, List.getElem?_cons_succ, List.getElem?_cons_zero]; rfl)
  case hq10 => exact fun _ _ _ h => h
  case hg10 => rfl
  case hy10 => (intro X hX; go_simp; try with_reducible rfl)
  try simp only [Act.put, List.setIfInBounds_toArray, List.set_cons_zero, List.set_cons_succ]
  refine wpAnyG_take 2 (oi := ?o11) ?v11 ?hi11 (by kernel_rfl) (by kernel_rfl) (by decide) (by kernel_rfl) (by kernel_rfl) ?hq11 ?hg11 ?hy11 (by assumption) ?hk11
  case hi11 => (simp only [List.getElem?_toArray, List.getElem?_cons_succ, List.getElem?_cons_zero]; rfl)
  case hq11 => exact fun _ _ _ h => h
  case hg11 => rfl
  case hy11 => (intro X hX; go_simp; try with_reducible rfl)
  try simp only [Act.put, List.setIfInBounds_toArray, List.set_cons_zero, List.set_cons_succ]
  refine wpAnyG_one 3 (o := ?o12) (by kernel_rfl) ?hi12 ?hg12 ?hk12
  case hi12 => (simp only [List.getElem?_toArray, List.getElem?_cons_succ, List.getElem?_cons_zero]; rfl)
  case hg12 => rfl
  intro K hK
  go_simp
  refine (bytes_e H9.out.drew 6 (by decide)).mono ?_
  rintro e w10 ⟨n10, R10, e10, l10, rfl, g10, h10⟩
  have E10 := Lib.hid e10
  have H10 := Lib.hid h10
  refine hK.out _ _ (fun _ => trivial) (fun _ => ?_)
  clear e10 h10 H9 hK K
  try simp only [Act.put, List.setIfInBounds_toArray, List.set_cons_zero, List.set_cons_succ]
  refine wpAnyG_one 4 (o := ?o13) (by kernel_rfl) ?hi13 ?hg13 ?hk13
  case hi13 => (simp only [List.getElem?_toArray, List.getElem?_cons_succ, List.getElem?_cons_zero]; rfl)
  case hg13 => rfl
  intro K hK
  have h10' : St w.heap.size w w10 (bk P 25 ([.bool rp, .int .i64 (n8 : Int)] ++ (zero6 ++ [.int .i64 0])) :: rd b R10 g10 :: bk w.heap.size 25 zMk :: []) := H10.out.pull 1 rfl
  refine Lib.wp_copy_run _ (.tmp 38) (.tmp 40) 90 9 rfl _ _ rfl rfl (copyAd_run [.bool rp, .int .i64 (n8 : Int)] [.int .i64 0] 2 6 n10 h10' rfl l10 _) ?_
  refine hK.out _ _ (fun h => absurd rfl h) (fun _ => ?_)
  refine wpAnyG_done (by kernel_rfl) ?_ _
  have H11 : Hid (St w.heap.size w _ (rd b R10 g10 :: bk P 25 (Mk.vals ⟨rp, n8, Ad.of n10, 0⟩) :: bk w.heap.size 25 zMk :: [])) := Lib.hid (St.copyAd [.bool rp, .int .i64 (n8 : Int)] [.int .i64 0] 2 n10 h10' rfl l10).swap
  clear h10' hK K H10
  generalize World.setRow _ _ _ = w11 at *
  go_wp2_with fail
  refine (num_e H11.out 4 (by decide) (by decide)).mono ?_
  rintro e w12 ⟨n12, R12, e12, l12, rfl, g12, h12⟩
  have E12 := Lib.hid e12
  have H12 := Lib.hid h12
  clear e12 h12 H11
  have c8 : w12.cell? ⟨P, 8, none⟩ = some (.int .i64 0) := (H12.out.pull 1 rfl).cell 8
  have z8 := (H12.out.pull 1 rfl).frozen 8
  go_upto_region 11 with (fail)
  have H13 : Hid (St w.heap.size w _ (rd b R12 g12 :: bk P 25 (Mk.vals ⟨rp, n8, Ad.of n10, n12⟩) :: bk w.heap.size 25 zMk :: [])) := Lib.hid ((H12.out.pull 1 rfl).set 8 (.int .i64 (n12 : Int)) (by rw [Mk.len]; decide)).swap
  clear c8 z8 H12
  generalize World.setCell _ _ _ = w13 at *
  go_wp2_with fail
  refine (bytes_e H13.out 2 (by decide)).mono ?_
  rintro e w14 ⟨n14, R14, e14, l14, rfl, g14, h14⟩
  have E14 := Lib.hid e14
  have H14 := Lib.hid h14
  clear e14 h14 H13
  go_wp2_with fail
  refine (head_e H14.out [0, 0] (by decide)).mono ?_
  rintro e w15 ⟨R15, e15, rfl, g15, h15⟩
  have E15 := Lib.hid e15
  have H15 := Lib.hid h15
  clear e15 h15 H14
  go_wp2_with fail
  refine (bytes_e H15.out 90 (by decide)).mono ?_
  rintro e w16 ⟨n16, R16, e16, l16, rfl, g16, h16⟩
  have E16 := Lib.hid e16
  have H16 := Lib.hid h16
  clear e16 h16 H15
  go_wp2_with fail
  refine (zeros_e H16.out).mono ?_
  rintro e w17 ⟨ok, R17, e17, rfl, g17, h17⟩
  have hE : readMkM s = (⟨rp, n8, Ad.of n10, n12⟩, ok, R17) := by
    unfold readMkM
    simp only [E3.out, E5.out, E6.out, E7.out, E8.out, E10.out, E12.out, E14.out, E15.out, E16.out, e17]
    have hd : decide (n5 = 2) = rp := by
      rw [← Hrp.out]
      by_cases h : n5 = 2
      · simp [h]
      · simp [h]; omega
    rw [hd]
  have HE := Lib.hid hE
  have H17 := Lib.hid h17
  clear e17 h17 hE H16 E3 E5 E6 E7 E8 E10 E12 E14 E15 E16
  have B17 := Lib.hid (H17.out.at 2 rfl)
  have R17' := Lib.hid (Blk.box (H17.out.at 1 rfl)).range
  cases ok
  · go_wp2_with (first
      | (with_reducible refine wpList_buildA (t := 25) [] zMk (by with_unfolding_all rfl) mk_zero ?_)
      | ((with_reducible refine (err_st H17.out).mono ?_)
         rintro e w18 ⟨rfl, rfl⟩)
      | (with_reducible refine wpList_store_blk (ty := 25) (o := 0) _ zMk (by with_unfolding_all rfl) (by with_unfolding_all rfl) B17.out (by with_unfolding_all exact Nat.le_refl _) (by with_unfolding_all exact info25) zMk_one (fun W19 hBW19 hoW19 => ?_)))
    have h19 := (H17.out.pull 2 rfl).sets (L' := zMk) hBW19 hoW19
    refine ret_cell2 (cs := zMk) Tryd.results17 (by rfl) (by rfl) (Blk.box h19.head).range Tryd.underlying25 rfl info25 rfl ⟨b, g17, ?_, ?_⟩
    · unfold mkGot; rw [HE.out]; rfl
    · rw [HE.out]; exact h19.tail.swap.tail
  · go_wp2_with (first
      | (with_reducible refine wpList_load_rng (ty := 25) (Mk.vals ⟨rp, n8, Ad.of n10, n12⟩) (by with_unfolding_all rfl) R17'.out Tryd.underlying25 (by with_unfolding_all rfl) (by with_unfolding_all exact info25) ?_)
      | (with_reducible refine wpList_store_blk (ty := 25) (o := 0) _ (Mk.vals ⟨rp, n8, Ad.of n10, n12⟩) (by with_unfolding_all rfl) (by with_unfolding_all rfl) B17.out (by with_unfolding_all exact Nat.le_refl _) (by with_unfolding_all exact info25) (Mk.one _) (fun W19 hBW19 hoW19 => ?_)))
    have h19 := (H17.out.pull 2 rfl).sets (L' := Mk.vals ⟨rp, n8, Ad.of n10, n12⟩) hBW19 hoW19
    refine ret_cell2 (cs := Mk.vals ⟨rp, n8, Ad.of n10, n12⟩) Tryd.results17 (by rfl) (by rfl) (Blk.box h19.head).range Tryd.underlying25 rfl info25 rfl ⟨b, g17, ?_, ?_⟩
    · unfold mkGot; rw [HE.out]; rfl
    · rw [HE.out]; exact h19.tail.swap.tail
end Go.Proofs.YteibhcocldihbaaDoor

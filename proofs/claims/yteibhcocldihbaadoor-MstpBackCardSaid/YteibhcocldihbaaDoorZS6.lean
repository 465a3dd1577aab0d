/- lacp.ReadMark. The fact of what both sides know. An argument that is a struct or an array of plain cells, opened: each cell's kind. Both sides, as an argument that came in. bpdu: times, Right, head. bpdu.ReadBody. bpdu.head, bpdu.Body, bpdu.Write. bpdu.Write. -/
import Derived.Test.YteibhcocldihbaaDoorZS5
import Derived.Test.YteibhcocldihbaaDoorRows
import Derived.WideShapes
import Derived.Handy
import Derived.Deep.CutBlock
set_option linter.all false
namespace Go.Proofs.YteibhcocldihbaaDoor
open Go.RowKit
@[reducible] def zMk : List Value := [.bool false, .int .i64 0, .int .u8 0, .int .u8 0, .int .u8 0, .int .u8 0, .int .u8 0, .int .u8 0, .int .i64 0]
theorem zMk_one : ∀ v ∈ zMk, v.oneCell' = true := by decide
theorem mk_zero : Tryd.prog.built 25 [] = some zMk.toArray := by kernel_rfl
theorem mk_built2 (r : Bool) (p : Int) : Tryd.prog.built 25 [(0, .bool r), (1, .int .i64 p)] = some (Mk.vals ⟨r, p, Ad.of [], 0⟩).toArray := by kernel_rfl
def mkGot (s : List UInt8) (g : Nat) : Value := if (readMkM s).2.1 = true then .tuple #[.agg (readMkM s).1.vals.toArray, .nilIface] else .tuple #[.agg zMk.toArray, errV (readMkM s).2.2 g]
theorem fail_e {B : Nat} {w0 w : World} {A : List It} {b g : Nat} {R : RS} (H : St B w0 w (rd b R g :: A)) (e p : Int) :
    Calls Tryd.prog 52 #[.pointer (some ⟨b, 0, none⟩), .int .i64 e, .int .i64 p] w fun r w' => r = .returned (.tuple #[]) ∧ RdTo B w0 b (failM R e p) A w' := fail_st H e p
set_option maxRecDepth 100000 in
set_option maxHeartbeats 2000000 in
theorem mkRead_any (s : List UInt8) (hs : s.length ≤ 4611686018427387904) (w : World) :
    Calls Tryd.prog 17 #[.string ⟨s.toArray⟩] w fun e w' => ∃ b g, e = .returned (mkGot s g) ∧ St w.heap.size w w' (rd b (readMkM s).2.2 g :: []) := by
  have H1 := Lib.hid ((St.init w).alloc zMk 25)
  go_enter Tryd.func17, Tryd.ntmps17
  go_upto_region 1 with (fail)
  unfold zMk at H1
  generalize World.alloc _ _ = w1 at *
  have H1 : Hid (St w.heap.size w w1 (bk w.heap.size 25 zMk :: [])) := H1
  go_wp2_with fail
  refine (new_st H1.out s 0 (by simpa using hs)).mono ?_
  rintro e w2 ⟨rfl, h2⟩
  have H2 := Lib.hid h2
  clear h2 H1
  generalize hb : w1.heap.size = b at *
  clear hb
  go_wp2_with fail
  refine (head_e H2.out [2, 1] (by decide)).mono ?_
  rintro e w3 ⟨R3, e3, rfl, g3, h3⟩
  have E3 := Lib.hid e3
  have H3 := Lib.hid h3
  clear e3 h3 H2
  go_wp2_with fail
  refine (at_st H3.out).mono ?_
  rintro e w4 ⟨rfl, h4⟩
  have H4 := Lib.hid h4
  clear h4 H3
  go_wp2_with fail
  refine (num_e H4.out 1 (by decide) (by decide)).mono ?_
  rintro e w5 ⟨n5, R5, e5, l5, rfl, g5, h5⟩
  have E5 := Lib.hid e5
  have H5 := Lib.hid h5
  clear e5 h5 H4
  go_upto_region 5 with (fail)
  obtain ⟨cond, hcd⟩ : ∃ c, decide (R5.err = none ∧ n5 ≠ 1 ∧ n5 ≠ 2) = c := ⟨_, rfl⟩
  have Hcd := Lib.hid hcd
  clear hcd
  go_cut [26] (fun c wx => c = .bool cond ∧ wx = w5)
  case first =>
    cases he : R5.err with
    | some x =>
      obtain rfl : cond = false := by rw [← Hcd.out, he]; simp
      have He := Lib.hid (errV_some he g5)
      clear he
      go_wp2_with (first
        | ((with_reducible refine (err_st H5.out).mono ?_)
           rintro e w6 ⟨rfl, rfl⟩
           rw [He.out]))
      go_meet
      exact ⟨rfl, rfl⟩
    | none =>
      have He := Lib.hid (errV_none he g5)
      by_cases h1 : n5 = 1
      · obtain rfl : cond = false := by rw [← Hcd.out, h1]; simp
        have hb1 : ((n5 : Int) != 1) = false := by rw [h1]; rfl
        clear he h1
        go_wp2_with (first
          | ((with_reducible refine (err_st H5.out).mono ?_)
             rintro e w6 ⟨rfl, rfl⟩
             rw [He.out]))
        go_meet
        exact ⟨rfl, rfl⟩
      · have hb1 : ((n5 : Int) != 1) = true := by rw [bne_iff_ne]; omega
        by_cases h2 : n5 = 2
        · obtain rfl : cond = false := by rw [← Hcd.out, h2]; simp
          have hb2 : ((n5 : Int) != 2) = false := by rw [h2]; rfl
          clear he h1 h2
          go_wp2_with (first
            | ((with_reducible refine (err_st H5.out).mono ?_)
               rintro e w6 ⟨rfl, rfl⟩
               rw [He.out]))
          go_meet
          exact ⟨rfl, rfl⟩
        · obtain rfl : cond = true := by rw [← Hcd.out, he]; simp [h1, h2]
          have hb2 : ((n5 : Int) != 2) = true := by rw [bne_iff_ne]; omega
          clear he h1 h2
          go_wp2_with (first
            | ((with_reducible refine (err_st H5.out).mono ?_)
               rintro e w6 ⟨rfl, rfl⟩
               rw [He.out]))
          go_meet
          exact ⟨rfl, rfl⟩
  case rest =>
  obtain ⟨rfl, rfl⟩ := hcut
  go_upto_if 26 with (fail)
  go_cut [] (fun wx => RdTo w.heap.size w b (if cond = true then failM R5 3 (R3.place : Int) else R5) [bk w.heap.size 25 zMk] wx)
  case first =>
    cases cond
    · go_wp2_with fail
      go_meet
      exact ⟨g5, H5.out⟩
    · go_wp2_with (first
        | ((with_reducible refine (fail_st H5.out 3 _).mono ?_)
           rintro e w6 ⟨rfl, h6⟩
           have H6 := Lib.hid h6
           clear h6))
      go_meet
      exact H6.out
  case rest =>
  have hR6 : (if cond = true then failM R5 3 (R3.place : Int) else R5) = if R5.err = none ∧ n5 ≠ 1 ∧ n5 ≠ 2 then failM R5 3 (R3.place : Int) else R5 := by
    rw [← Hcd.out]; simp only [decide_eq_true_eq]
  rw [hR6] at hcut
  obtain ⟨R6, e6⟩ : ∃ R', (if R5.err = none ∧ n5 ≠ 1 ∧ n5 ≠ 2 then failM R5 3 (R3.place : Int) else R5) = R' := ⟨_, rfl⟩
  rw [e6] at hcut
  obtain ⟨g6, h6⟩ := hcut
  have E6 := Lib.hid e6
  have H6 := Lib.hid h6
  clear e6 h6 hR6 H5
  generalize wc = w6 at *
  go_wp2_with fail
  refine (head_e H6.out [16] (by decide)).mono ?_
  rintro e w7 ⟨R7, e7, rfl, g7, h7⟩
  have E7 := Lib.hid e7
  have H7 := Lib.hid h7
  clear e7 h7 H6
  obtain ⟨rp, hrp⟩ : ∃ r, ((n5 : Int) == 2) = r := ⟨_, rfl⟩
  have Hrp := Lib.hid hrp
  go_wp2_with fail
  clear hrp
  refine (num_e H7.out 2 (by decide) (by decide)).mono ?_
  rintro e w8 ⟨n8, R8, e8, l8, rfl, g8, h8⟩
  have E8 := Lib.hid e8
  have H8 := Lib.hid h8
  clear e8 h8 H7
  go_upto_region 9 with (first
    | (with_reducible refine wpList_buildA (t := 25) [(0, .bool rp), (1, .int .i64 (n8 : Int))] (Mk.vals ⟨rp, n8, Ad.of [], 0⟩) (by with_unfolding_all rfl) (mk_built2 _ _) ?_)
    | (with_reducible refine wpList_store_blk (ty := 25) (o := 0) _ (Mk.vals ⟨rp, n8, Ad.of [], 0⟩) (by with_unfolding_all rfl) (by with_unfolding_all rfl) (Blk.new w8 zMk 25) (by with_unfolding_all exact Nat.le_refl _) (by with_unfolding_all exact info25) (Mk.one _) (fun W9 hBW9 hoW9 => ?_)))
  have H9 : Hid (St w.heap.size w W9 (rd b R8 g8 :: bk w8.heap.size 25 (Mk.vals ⟨rp, n8, Ad.of [], 0⟩) :: bk w.heap.size 25 zMk :: [])) := Lib.hid (((H8.out.alloc zMk 25).sets (L' := Mk.vals ⟨rp, n8, Ad.of [], 0⟩) hBW9 hoW9).swap)
  clear hBW9 hoW9 H8
  generalize hP : w8.heap.size = P at *
  clear hP
  refine wp_region_last (fun _ => True) 4 (by kernel_rfl) trivial (fun hHeld => ?_)
  refine wpAnyG_take 0 (oi := ?o9) ?v9 ?hi9 (by kernel_rfl) (by kernel_rfl) (by decide) (by kernel_rfl) (by kernel_rfl) ?hq9 ?hg9 ?hy9 (by assumption) ?hk9
  case hi9 => (simp only [List.getElem?_toArray, List.getElem?_cons_succ, List.getElem?_cons_zero]; rfl)
  case hq9 => exact fun _ _ _ h => h
  case hg9 => rfl
  case hy9 => (intro X hX; go_simp; try with_reducible rfl)
  try simp only [Act.put, List.setIfInBounds_toArray, List.set_cons_zero, List.set_cons_succ]
  refine wpAnyG_take 1 (oi := ?o10) ?v10 ?hi10 (by kernel_rfl) (by kernel_rfl) (by decide) (by kernel_rfl) (by kernel_rfl) ?hq10 ?hg10 ?hy10 (by assumption) ?hk10
  case hi10 => (simp only [List.getElem?_toArray, List.getElem?_cons_succ, List.getElem?_cons_zero]; rfl)
  case hq10 => exact fun _ _ _ h => h
  case hg10 => rfl
  case hy10 => (intro X hX; go_simp; try with_reducible rfl)
  try simp only [Act.put, List.setIfInBounds_toArray, List.set_cons_zero, List.set_cons_succ]
  refine wpAnyG_take 2 (oi := ?o11) ?v11 ?hi11 (by kernel_rfl) (by kernel_rfl) (by decide) (by kernel_rfl) (by kernel_rfl) ?hq11 ?hg11 ?hy11 (by assumption) ?hk11
  case hi11 => (simp only [List.getElem?_toArray, List.getElem?_cons_succ, List.getElem?_cons_zero]; rfl)
  case hq11 => exact fun _ _ _ h => h
  case hg11 => rfl
  case hy11 => (intro X hX; go_simp; try with_reducible rfl)
  try simp only [Act.put, List.setIfInBounds_toArray, List.set_cons_zero, List.set_cons_succ]
  refine wpAnyG_one 3 (o := ?o12) (by kernel_rfl) ?hi12 ?hg12 ?hk12
  case hi12 => (simp only [List.getElem?_toArray, List.getElem?_cons_succ, List.getElem?_cons_zero]; rfl)
  case hg12 => rfl
  intro K hK
  go_simp
  refine (bytes_e H9.out.drew 6 (by decide)).mono ?_
  rintro e w10 ⟨n10, R10, e10, l10, rfl, g10, h10⟩
  have E10 := Lib.hid e10
  have H10 := Lib.hid h10
  refine hK.out _ _ (fun _ => trivial) (fun _ => ?_)
  clear e10 h10 H9 hK K
  try simp only [Act.put, List.setIfInBounds_toArray, List.set_cons_zero, List.set_cons_succ]
  refine wpAnyG_one 4 (o := ?o13) (by kernel_rfl) ?hi13 ?hg13 ?hk13
  case hi13 => (simp only [List.getElem?_toArray, List.getElem?_cons_succ, List.getElem?_cons_zero]; rfl)
  case hg13 => rfl
  intro K hK
  have h10' : St w.heap.size w w10 (bk P 25 ([.bool rp, .int .i64 (n8 : Int)] ++ (zero6 ++ [.int .i64 0])) :: rd b R10 g10 :: bk w.heap.size 25 zMk :: []) := H10.out.pull 1 rfl
  refine Lib.wp_copy_run _ (.tmp 38) (.tmp 40) 90 9 rfl _ _ rfl rfl (copyAd_run [.bool rp, .int .i64 (n8 : Int)] [.int .i64 0] 2 6 n10 h10' rfl l10 _) ?_
  refine hK.out _ _ (fun h => absurd rfl h) (fun _ => ?_)
  refine wpAnyG_done (by kernel_rfl) ?_ _
  have H11 : Hid (St w.heap.size w _ (rd b R10 g10 :: bk P 25 (Mk.vals ⟨rp, n8, Ad.of n10, 0⟩) :: bk w.heap.size 25 zMk :: [])) := Lib.hid (St.copyAd [.bool rp, .int .i64 (n8 : Int)] [.int .i64 0] 2 n10 h10' rfl l10).swap
  clear h10' hK K H10
  generalize World.setRow _ _ _ = w11 at *
  go_wp2_with fail
  refine (num_e H11.out 4 (by decide) (by decide)).mono ?_
  rintro e w12 ⟨n12, R12, e12, l12, rfl, g12, h12⟩
  have E12 := Lib.hid e12
  have H12 := Lib.hid h12
  clear e12 h12 H11
  have c8 : w12.cell? ⟨P, 8, none⟩ = some (.int .i64 0) := (H12.out.pull 1 rfl).cell 8
  have z8 := (H12.out.pull 1 rfl).frozen 8
  go_upto_region 11 with (fail)
  have H13 : Hid (St w.heap.size w _ (rd b R12 g12 :: bk P 25 (Mk.vals ⟨rp, n8, Ad.of n10, n12⟩) :: bk w.heap.size 25 zMk :: [])) := Lib.hid ((H12.out.pull 1 rfl).set 8 (.int .i64 (n12 : Int)) (by rw [Mk.len]; decide)).swap
  clear c8 z8 H12
  generalize World.setCell _ _ _ = w13 at *
  go_wp2_with fail
  refine (bytes_e H13.out 2 (by decide)).mono ?_
  rintro e w14 ⟨n14, R14, e14, l14, rfl, g14, h14⟩
  have E14 := Lib.hid e14
  have H14 := Lib.hid h14
  clear e14 h14 H13
  go_wp2_with fail
  refine (head_e H14.out [0, 0] (by decide)).mono ?_
  rintro e w15 ⟨R15, e15, rfl, g15, h15⟩
  have E15 := Lib.hid e15
  have H15 := Lib.hid h15
  clear e15 h15 H14
  go_wp2_with fail
  refine (bytes_e H15.out 90 (by decide)).mono ?_
  rintro e w16 ⟨n16, R16, e16, l16, rfl, g16, h16⟩
  have E16 := Lib.hid e16
  have H16 := Lib.hid h16
  clear e16 h16 H15
  go_wp2_with fail
  refine (zeros_e H16.out).mono ?_
  rintro e w17 ⟨ok, R17, e17, rfl, g17, h17⟩
  have hE : readMkM s = (⟨rp, n8, Ad.of n10, n12⟩, ok, R17) := by
    unfold readMkM
    simp only [E3.out, E5.out, E6.out, E7.out, E8.out, E10.out, E12.out, E14.out, E15.out, E16.out, e17]
    have hd : decide (n5 = 2) = rp := by
      rw [← Hrp.out]
      by_cases h : n5 = 2
      · simp [h]
      · simp [h]; omega
    rw [hd]
  have HE := Lib.hid hE
  have H17 := Lib.hid h17
  clear e17 h17 hE H16 E3 E5 E6 E7 E8 E10 E12 E14 E15 E16
  have B17 := Lib.hid (H17.out.at 2 rfl)
  have R17' := Lib.hid (Blk.box (H17.out.at 1 rfl)).range
  cases ok
  · go_wp2_with (first
      | (with_reducible refine wpList_buildA (t := 25) [] zMk (by with_unfolding_all rfl) mk_zero ?_)
      | ((with_reducible refine (err_st H17.out).mono ?_)
         rintro e w18 ⟨rfl, rfl⟩)
      | (with_reducible refine wpList_store_blk (ty := 25) (o := 0) _ zMk (by with_unfolding_all rfl) (by with_unfolding_all rfl) B17.out (by with_unfolding_all exact Nat.le_refl _) (by with_unfolding_all exact info25) zMk_one (fun W19 hBW19 hoW19 => ?_)))
    have h19 := (H17.out.pull 2 rfl).sets (L' := zMk) hBW19 hoW19
    refine ret_cell2 (cs := zMk) Tryd.results17 (by rfl) (by rfl) (Blk.box h19.head).range Tryd.underlying25 rfl info25 rfl ⟨b, g17, ?_, ?_⟩
    · unfold mkGot; rw [HE.out]; rfl
    · rw [HE.out]; exact h19.tail.swap.tail
  · go_wp2_with (first
      | (with_reducible refine wpList_load_rng (ty := 25) (Mk.vals ⟨rp, n8, Ad.of n10, n12⟩) (by with_unfolding_all rfl) R17'.out Tryd.underlying25 (by with_unfolding_all rfl) (by with_unfolding_all exact info25) ?_)
      | (with_reducible refine wpList_store_blk (ty := 25) (o := 0) _ (Mk.vals ⟨rp, n8, Ad.of n10, n12⟩) (by with_unfolding_all rfl) (by with_unfolding_all rfl) B17.out (by with_unfolding_all exact Nat.le_refl _) (by with_unfolding_all exact info25) (Mk.one _) (fun W19 hBW19 hoW19 => ?_)))
    have h19 := (H17.out.pull 2 rfl).sets (L' := Mk.vals ⟨rp, n8, Ad.of n10, n12⟩) hBW19 hoW19
    refine ret_cell2 (cs := Mk.vals ⟨rp, n8, Ad.of n10, n12⟩) Tryd.results17 (by rfl) (by rfl) (Blk.box h19.head).range Tryd.underlying25 rfl info25 rfl ⟨b, g17, ?_, ?_⟩
    · unfold mkGot; rw [HE.out]; rfl
    · rw [HE.out]; exact h19.tail.swap.tail
end Go.Proofs.YteibhcocldihbaaDoor
namespace Go.Proofs.YteibhcocldihbaaDoor
open Go.RowKit
theorem wpList_buildAG {P : Program} {ops : Array Oper} {rest : List Oper} {d : Tmp} {t : TypeId} {parts : Array (Nat × Operand)} {t' : TypeId} {pos : String} {after : Array Edge} {gd : Option (Nat × Bool)} {a : Act} {w : World} {Q : Exit → Act → World → Prop} (vs : List (Nat × Value)) (cells : List Value)
    (hg : Region.wanted ⟨some d, .build t parts, t', pos, after, gd⟩ (yielded ops a.tmps) = true) (hv : (parts.map fun (i, x) => (i, a.eval x)).toList = vs) (hc : P.built t vs = some cells.toArray) (h : wpList P ops Q rest (a.put (some d) (.agg cells.toArray)) w) :
    wpList P ops Q (⟨some d, .build t parts, t', pos, after, gd⟩ :: rest) a w :=
  wpList_step fun K hK => by
    rw [if_pos hg]
    refine wp_build t parts rfl (by rw [hv, hc]; rfl) ?_
    rw [hv, hc]
    exact hK _ _ h
def p1 : Pty := ⟨1, ⟨0, 0, 0, 0, 0, 0⟩, 0, 0, 0, 61⟩
def p2 : Pty := ⟨0, ⟨0, 0, 0, 0, 0, 0⟩, 2, 0, 0, 0⟩
def l0 : Lac := ⟨p1, p2, 3⟩
def m0 : Mk := ⟨false, 1, ⟨0, 0, 0, 0, 0, 0⟩, 9⟩
theorem p1_built : Tryd.prog.built 83 [(0, .int .i64 1), (5, .int .i64 61)] = some p1.vals.toArray := by kernel_rfl
theorem p2_built : Tryd.prog.built 83 [(2, .int .i64 2)] = some p2.vals.toArray := by kernel_rfl
theorem l0_built : Tryd.prog.built 85 [(0, .agg p1.vals.toArray), (1, .agg p2.vals.toArray), (2, .int .i64 3)] = some l0.vals.toArray := by kernel_rfl
theorem m0_built : Tryd.prog.built 25 [(1, .int .i64 1), (3, .int .i64 9)] = some m0.vals.toArray := by kernel_rfl
theorem lacWrite_ok (l : Lac) (h : l.okB = true) (w : World) :
    Calls Tryd.prog 41 #[.agg l.vals.toArray] w fun e w' => e = .returned (.tuple #[.string ⟨l.bytes.toArray⟩, .nilIface]) ∧ Below w.heap.size w w' := by
  refine (lacWrite_any l w).mono ?_
  rintro e w1 ⟨rfl, hb⟩
  exact ⟨by unfold lacOut; rw [if_pos h], hb⟩
theorem lacWrite_no (l : Lac) (h : l.okB = false) (w : World) :
    Calls Tryd.prog 41 #[.agg l.vals.toArray] w fun e w' => e = .returned (.tuple #[.string ⟨#[]⟩, erV 1]) ∧ Below w.heap.size w w' := by
  refine (lacWrite_any l w).mono ?_
  rintro e w1 ⟨rfl, hb⟩
  exact ⟨by unfold lacOut; rw [if_neg (by rw [h]; exact Bool.false_ne_true)], hb⟩
theorem lacRead_free (l : Lac) (h : l.okB = true) (f1 f2 f3 f4 : List UInt8) (h1 : f1.length = 3) (h2 : f2.length = 3) (h3 : f3.length = 12) (h4 : f4.length = 50) (w : World) :
    Calls Tryd.prog 42 #[.string ⟨(l.bytesF f1 f2 f3 f4).toArray⟩] w fun e w' => e = .returned (.tuple #[.agg l.vals.toArray, .nilIface]) ∧ Below w.heap.size w w' := by
  have hlen : (l.bytesF f1 f2 f3 f4).length = 110 := by simp [Lac.bytesF, sideC_len, beBytes_len, h1, h2, h3, h4]
  refine (lacRead_any _ (by omega) w).mono ?_
  rintro e w1 ⟨b, g, rfl, hS⟩
  obtain ⟨R, hR, _⟩ := readLac_left l f1 f2 f3 f4 h h1 h2 h3 h4
  exact ⟨by unfold lacGot; rw [hR]; rfl, hS.below⟩
theorem lacRead_ok (l : Lac) (h : l.okB = true) (w : World) :
    Calls Tryd.prog 42 #[.string ⟨l.bytes.toArray⟩] w fun e w' => e = .returned (.tuple #[.agg l.vals.toArray, .nilIface]) ∧ Below w.heap.size w w' := by
  rw [Lac.bytes_eq]
  exact lacRead_free l h _ _ _ _ rfl rfl (by simp) (by simp) w
theorem mkWrite_ok (m : Mk) (h : m.okB = true) (w : World) :
    Calls Tryd.prog 14 #[.agg m.vals.toArray] w fun e w' => e = .returned (.tuple #[.string ⟨m.bytes.toArray⟩, .nilIface]) ∧ Below w.heap.size w w' := by
  refine (mkWrite_any m w).mono ?_
  rintro e w1 ⟨rfl, hb⟩
  exact ⟨by unfold mkOut; rw [if_pos h], hb⟩
theorem mkRead_ok (m : Mk) (h : m.okB = true) (w : World) :
    Calls Tryd.prog 17 #[.string ⟨m.bytes.toArray⟩] w fun e w' => e = .returned (.tuple #[.agg m.vals.toArray, .nilIface]) ∧ Below w.heap.size w w' := by
  refine (mkRead_any _ (by rw [Mk.bytes_len]; decide) w).mono ?_
  rintro e w1 ⟨b, g, rfl, hS⟩
  obtain ⟨R, hR, _⟩ := readMk_bytes m h
  exact ⟨by unfold mkGot; rw [hR]; rfl, hS.below⟩
set_option maxRecDepth 100000 in
set_option maxHeartbeats 2000000 in
theorem linked_any (w : World) : Calls Tryd.prog 13 #[] w fun e w' => e = .returned (.bool true) ∧ Below w.heap.size w w' := by
  have hl0 : l0.okB = true := by decide
  have hm0 : m0.okB = true := by decide
  have b1 : ((l0.bytes.length : Int) == 110) = true := by rw [Lac.bytes_len]; rfl
  have b2 : ((m0.bytes.length : Int) == 110) = true := by rw [Mk.bytes_len]; rfl
  have HW := Lib.hid (lacWrite_ok l0 hl0)
  have HR := Lib.hid (lacRead_ok l0 hl0)
  have HV := Lib.hid (mkWrite_ok m0 hm0)
  have HQ := Lib.hid (mkRead_ok m0 hm0)
  have EL := lac_eq l0
  have GL := fun p q => lac_guard l0 p q
  have EM := mk_eq m0
  have GM := fun p q => mk_guard m0 p q
  have HL1 := Lib.hid (Lac.one l0)
  have HM1 := Lib.hid (Mk.one m0)
  have PB1 := Lib.hid p1_built
  have PB2 := Lib.hid p2_built
  have PB3 := Lib.hid l0_built
  have PB4 := Lib.hid m0_built
  generalize l0.bytes = SL at *
  generalize m0.bytes = SM at *
  generalize l0 = L at *
  generalize m0 = M at *
  generalize p1 = P1 at *
  generalize p2 = P2 at *
  clear hl0 hm0
  go_enter Tryd.func13, Tryd.ntmps13
  go_upto_region 2 with (first
    | (with_reducible refine wpList_buildA (t := 83) [(0, .int .i64 1), (5, .int .i64 61)] P1.vals (by with_unfolding_all rfl) PB1.out ?_)
    | (with_reducible refine wpList_buildA (t := 83) [(2, .int .i64 2)] P2.vals (by with_unfolding_all rfl) PB2.out ?_)
    | (with_reducible refine wpList_buildA (t := 85) [(0, .agg P1.vals.toArray), (1, .agg P2.vals.toArray), (2, .int .i64 3)] L.vals (by with_unfolding_all rfl) PB3.out ?_)
    | (with_reducible refine wpList_store_blk (ty := 85) (o := 0) _ L.vals (by with_unfolding_all rfl) (by with_unfolding_all rfl) (Blk.new w zLac 85) (by with_unfolding_all exact Nat.le_refl _) (by with_unfolding_all exact info85) HL1.out (fun W1 hBW1 hoW1 => ?_)))
  have H1 : Hid (St w.heap.size w W1 [bk w.heap.size 85 L.vals]) := Lib.hid (((St.init w).alloc zLac 85).sets (L' := L.vals) hBW1 hoW1)
  clear hBW1 hoW1
  go_upto_region 3 with (first
    | (with_reducible refine wpList_load_rng (ty := 85) L.vals (by with_unfolding_all rfl) (Blk.box (H1.out.at 0 rfl)).range Tryd.underlying85 (by with_unfolding_all rfl) (by with_unfolding_all exact info85) ?_)
    | ((with_reducible refine (HW.out _).mono ?_)
       rintro e w2 ⟨rfl, hb2⟩
       have H2 := Lib.hid (H1.out.ext hb2)
       clear hb2))
  go_upto_region 4 with (first
    | ((with_reducible refine (HR.out _).mono ?_)
       rintro e w3 ⟨rfl, hb3⟩
       have H3 := Lib.hid (H2.out.ext hb3)
       clear hb3)
    | (with_reducible refine wpList_store_blk (ty := 85) (o := 0) _ L.vals (by with_unfolding_all rfl) (by with_unfolding_all rfl) (Blk.new w3 zLac 85) (by with_unfolding_all exact Nat.le_refl _) (by with_unfolding_all exact info85) HL1.out (fun W4 hBW4 hoW4 => ?_)))
  have H4 : Hid (St w.heap.size w W4 [bk w3.heap.size 85 L.vals, bk w.heap.size 85 L.vals]) := Lib.hid ((H3.out.alloc zLac 85).sets (L' := L.vals) hBW4 hoW4)
  clear hBW4 hoW4 H3 H2 H1
  generalize hP : w3.heap.size = P at *
  clear hP
  go_upto_region 5 with (first
    | (with_reducible refine wpList_buildA (t := 25) [(1, .int .i64 1), (3, .int .i64 9)] M.vals (by with_unfolding_all rfl) PB4.out ?_)
    | ((with_reducible refine (HV.out _).mono ?_)
       rintro e w5 ⟨rfl, hb5⟩
       have H5 := Lib.hid (H4.out.ext hb5)
       clear hb5))
  go_upto_region 6 with (first
    | ((with_reducible refine (HQ.out _).mono ?_)
       rintro e w6 ⟨rfl, hb6⟩
       have H6 := Lib.hid (H5.out.ext hb6)
       clear hb6)
    | (with_reducible refine wpList_store_blk (ty := 25) (o := 0) _ M.vals (by with_unfolding_all rfl) (by with_unfolding_all rfl) (Blk.new w6 zMk 25) (by with_unfolding_all exact Nat.le_refl _) (by with_unfolding_all exact info25) HM1.out (fun W7 hBW7 hoW7 => ?_)))
  have H7 : Hid (St w.heap.size w W7 [bk w6.heap.size 25 M.vals, bk P 85 L.vals, bk w.heap.size 85 L.vals]) := Lib.hid ((H6.out.alloc zMk 25).sets (L' := M.vals) hBW7 hoW7)
  clear hBW7 hoW7 H6 H5 H4
  generalize hQ : w6.heap.size = Q at *
  clear hQ
  go_wp2_with (first
    | (with_reducible refine wpList_load_rngG (ty := 85) L.vals (by with_unfolding_all rfl) (by with_unfolding_all rfl) (Blk.box (H7.out.at 1 rfl)).range Tryd.underlying85 (by with_unfolding_all rfl) (by with_unfolding_all exact info85) ?_)
    | (with_reducible refine wpList_load_rngG (ty := 85) L.vals (by with_unfolding_all rfl) (by with_unfolding_all rfl) (Blk.box (H7.out.at 2 rfl)).range Tryd.underlying85 (by with_unfolding_all rfl) (by with_unfolding_all exact info85) ?_)
    | (with_reducible refine wpList_load_rngG (ty := 25) M.vals (by with_unfolding_all rfl) (by with_unfolding_all rfl) (Blk.box (H7.out.at 0 rfl)).range Tryd.underlying25 (by with_unfolding_all rfl) (by with_unfolding_all exact info25) ?_)
    | (with_reducible refine wpList_buildAG (t := 25) [(1, .int .i64 1), (3, .int .i64 9)] M.vals (by with_unfolding_all rfl) (by with_unfolding_all rfl) PB4.out ?_))
  go_ret
  exact ⟨rfl, H7.out.below⟩
end Go.Proofs.YteibhcocldihbaaDoor
namespace Go.Proofs.YteibhcocldihbaaDoor
section
variable {P : Program} {w : World} {r : Reach} {base : Nat}
theorem cell_int {t : TypeId} {v : Value} {k : IntKind} (ht : P.underlying t = some (.int k)) (h : Cell.okWide P w r base t v) : ∃ n, v = .int k n ∧ k.has n := by
  unfold Cell.okWide Cell.ok at h
  rw [ht] at h
  cases v with
  | int k' n => obtain ⟨rfl, hn⟩ := h; exact ⟨n, rfl, hn⟩
  | _ => exact h.elim
theorem cell_bool {t : TypeId} {v : Value} (ht : P.underlying t = some .bool) (h : Cell.okWide P w r base t v) : ∃ b, v = .bool b := by
  unfold Cell.okWide Cell.ok at h
  rw [ht] at h
  cases v with
  | bool b => exact ⟨b, rfl⟩
  | _ => exact h.elim
theorem cell_string {t : TypeId} {v : Value} (ht : P.underlying t = some .string) (h : Cell.okWide P w r base t v) : ∃ s : List UInt8, v = .string ⟨s.toArray⟩ ∧ s.length ≤ 9223372036854775807 := by
  unfold Cell.okWide Cell.ok at h
  rw [ht] at h
  cases v with
  | string s =>
    obtain ⟨⟨l⟩⟩ := s
    have e : IntKind.i64.max = 9223372036854775807 := by rfl
    refine ⟨l, rfl, ?_⟩
    have h' : ((⟨⟨l⟩⟩ : ByteArray).size : Int) ≤ IntKind.i64.max := h
    rw [e] at h'
    have h2 : (⟨⟨l⟩⟩ : ByteArray).size = l.length := rfl
    omega
  | _ => exact h.elim
theorem flatV {t : TypeId} {v : Value} {ts : List TypeId} (hu : (∃ fs, P.underlying t = some (.struct fs)) ∨ ∃ n e, P.underlying t = some (.array n e)) (hts : P.cellTypes P.depth t = some ts) (hC : P.cellsOf t = ts.length)
    (h : Value.okWide P w r base t v) : ∃ cs : List Value, v = .agg cs.toArray ∧ cs.length = ts.length ∧ ∀ (i : Nat) (u : TypeId), ts[i]? = some u → ∃ c, cs[i]? = some c ∧ Cell.okWide P w r base u c := by
  have h' : ∃ cs : Array Value, v = .agg cs ∧ cs.size = P.cellsOf t ∧ Row.okWide P w r base t cs := by
    unfold Value.okWide at h
    rcases hu with ⟨fs, hu⟩ | ⟨n, e, hu⟩
    · rw [hu] at h; exact h
    · rw [hu] at h; exact h
  obtain ⟨⟨cs⟩, rfl, hsz, ts', hts', _, hi⟩ := h'
  rw [hts] at hts'
  obtain rfl := Option.some.inj hts'
  have hsz' : cs.length = ts.length := hsz.trans hC
  refine ⟨cs, rfl, hsz', fun i u hiu => ?_⟩
  have hlt : i < ts.length := (List.getElem?_eq_some_iff.1 hiu).1
  have hlt' : i < cs.length := by omega
  obtain ⟨u', hu', hc⟩ := hi i cs[i] (by simp [hlt'])
  rw [Nat.mod_eq_of_lt hlt, hiu] at hu'
  obtain rfl := Option.some.inj hu'
  exact ⟨cs[i], List.getElem?_eq_getElem hlt', hc⟩
end
end Go.Proofs.YteibhcocldihbaaDoor
namespace Go.Proofs.YteibhcocldihbaaDoor
open Go.RowKit
theorem u8_has {n : Int} (h : IntKind.u8.has n) : ∃ b : UInt8, n = b.toNat := by
  have h1 : IntKind.u8.min ≤ n ∧ n ≤ IntKind.u8.max := h
  have e1 : IntKind.u8.min = 0 := by rfl
  have e2 : IntKind.u8.max = 255 := by rfl
  refine ⟨UInt8.ofNat n.toNat, ?_⟩
  rw [UInt8.toNat_ofNat']
  omega
set_option maxRecDepth 100000 in
theorem lac_types : Tryd.prog.cellTypes Tryd.prog.depth 85 = some [3, 5, 5, 5, 5, 5, 5, 3, 3, 3, 3, 3, 5, 5, 5, 5, 5, 5, 3, 3, 3, 3, 3] := by kernel_rfl
theorem lac_struct : ∃ fs, Tryd.prog.underlying 85 = some (.struct fs) := ⟨_, Tryd.underlying85⟩
set_option maxRecDepth 100000 in
set_option maxHeartbeats 1000000 in
theorem open_lac {H : Type} {enc : TypeId × Value → H} {w : World} {r : Reach} {base : Nat} {b0 : Nat} {sp : Nat → Bool} {hd : Bool} {v : Value} {d : DataW H} {ps : List MemPlace}
    (h : Value.okWide Tryd.prog w r base 85 v) (_ : DataW.Trod enc Tryd.prog w b0 sp hd 85 v d ps) : ∃ x : Lac, v = .agg x.vals.toArray := by
  obtain ⟨cs, rfl, hl, hc⟩ := flatV (.inl lac_struct) lac_types (by kernel_rfl) h
  match cs, hl with
  | [z0, z1, z2, z3, z4, z5, z6, z7, z8, z9, z10, z11, z12, z13, z14, z15, z16, z17, z18, z19, z20, z21, z22], _ =>
    obtain ⟨x0, e0, k0⟩ := hc 0 3 rfl
    obtain ⟨x1, e1, k1⟩ := hc 1 5 rfl
    obtain ⟨x2, e2, k2⟩ := hc 2 5 rfl
    obtain ⟨x3, e3, k3⟩ := hc 3 5 rfl
    obtain ⟨x4, e4, k4⟩ := hc 4 5 rfl
    obtain ⟨x5, e5, k5⟩ := hc 5 5 rfl
    obtain ⟨x6, e6, k6⟩ := hc 6 5 rfl
    obtain ⟨x7, e7, k7⟩ := hc 7 3 rfl
    obtain ⟨x8, e8, k8⟩ := hc 8 3 rfl
    obtain ⟨x9, e9, k9⟩ := hc 9 3 rfl
    obtain ⟨x10, e10, k10⟩ := hc 10 3 rfl
    obtain ⟨x11, e11, k11⟩ := hc 11 3 rfl
    obtain ⟨x12, e12, k12⟩ := hc 12 5 rfl
    obtain ⟨x13, e13, k13⟩ := hc 13 5 rfl
    obtain ⟨x14, e14, k14⟩ := hc 14 5 rfl
    obtain ⟨x15, e15, k15⟩ := hc 15 5 rfl
    obtain ⟨x16, e16, k16⟩ := hc 16 5 rfl
    obtain ⟨x17, e17, k17⟩ := hc 17 5 rfl
    obtain ⟨x18, e18, k18⟩ := hc 18 3 rfl
    obtain ⟨x19, e19, k19⟩ := hc 19 3 rfl
    obtain ⟨x20, e20, k20⟩ := hc 20 3 rfl
    obtain ⟨x21, e21, k21⟩ := hc 21 3 rfl
    obtain ⟨x22, e22, k22⟩ := hc 22 3 rfl
    obtain rfl : z0 = x0 := Option.some.inj e0
    obtain rfl : z1 = x1 := Option.some.inj e1
    obtain rfl : z2 = x2 := Option.some.inj e2
    obtain rfl : z3 = x3 := Option.some.inj e3
    obtain rfl : z4 = x4 := Option.some.inj e4
    obtain rfl : z5 = x5 := Option.some.inj e5
    obtain rfl : z6 = x6 := Option.some.inj e6
    obtain rfl : z7 = x7 := Option.some.inj e7
    obtain rfl : z8 = x8 := Option.some.inj e8
    obtain rfl : z9 = x9 := Option.some.inj e9
    obtain rfl : z10 = x10 := Option.some.inj e10
    obtain rfl : z11 = x11 := Option.some.inj e11
    obtain rfl : z12 = x12 := Option.some.inj e12
    obtain rfl : z13 = x13 := Option.some.inj e13
    obtain rfl : z14 = x14 := Option.some.inj e14
    obtain rfl : z15 = x15 := Option.some.inj e15
    obtain rfl : z16 = x16 := Option.some.inj e16
    obtain rfl : z17 = x17 := Option.some.inj e17
    obtain rfl : z18 = x18 := Option.some.inj e18
    obtain rfl : z19 = x19 := Option.some.inj e19
    obtain rfl : z20 = x20 := Option.some.inj e20
    obtain rfl : z21 = x21 := Option.some.inj e21
    obtain rfl : z22 = x22 := Option.some.inj e22
    obtain ⟨c0, rfl, h0⟩ := cell_int Tryd.underlying3 k0
    obtain ⟨n1, rfl, h1⟩ := cell_int Tryd.underlying5 k1
    obtain ⟨c1, rfl⟩ := u8_has h1
    obtain ⟨n2, rfl, h2⟩ := cell_int Tryd.underlying5 k2
    obtain ⟨c2, rfl⟩ := u8_has h2
    obtain ⟨n3, rfl, h3⟩ := cell_int Tryd.underlying5 k3
    obtain ⟨c3, rfl⟩ := u8_has h3
    obtain ⟨n4, rfl, h4⟩ := cell_int Tryd.underlying5 k4
    obtain ⟨c4, rfl⟩ := u8_has h4
    obtain ⟨n5, rfl, h5⟩ := cell_int Tryd.underlying5 k5
    obtain ⟨c5, rfl⟩ := u8_has h5
    obtain ⟨n6, rfl, h6⟩ := cell_int Tryd.underlying5 k6
    obtain ⟨c6, rfl⟩ := u8_has h6
    obtain ⟨c7, rfl, h7⟩ := cell_int Tryd.underlying3 k7
    obtain ⟨c8, rfl, h8⟩ := cell_int Tryd.underlying3 k8
    obtain ⟨c9, rfl, h9⟩ := cell_int Tryd.underlying3 k9
    obtain ⟨c10, rfl, h10⟩ := cell_int Tryd.underlying3 k10
    obtain ⟨c11, rfl, h11⟩ := cell_int Tryd.underlying3 k11
    obtain ⟨n12, rfl, h12⟩ := cell_int Tryd.underlying5 k12
    obtain ⟨c12, rfl⟩ := u8_has h12
    obtain ⟨n13, rfl, h13⟩ := cell_int Tryd.underlying5 k13
    obtain ⟨c13, rfl⟩ := u8_has h13
    obtain ⟨n14, rfl, h14⟩ := cell_int Tryd.underlying5 k14
    obtain ⟨c14, rfl⟩ := u8_has h14
    obtain ⟨n15, rfl, h15⟩ := cell_int Tryd.underlying5 k15
    obtain ⟨c15, rfl⟩ := u8_has h15
    obtain ⟨n16, rfl, h16⟩ := cell_int Tryd.underlying5 k16
    obtain ⟨c16, rfl⟩ := u8_has h16
    obtain ⟨n17, rfl, h17⟩ := cell_int Tryd.underlying5 k17
    obtain ⟨c17, rfl⟩ := u8_has h17
    obtain ⟨c18, rfl, h18⟩ := cell_int Tryd.underlying3 k18
    obtain ⟨c19, rfl, h19⟩ := cell_int Tryd.underlying3 k19
    obtain ⟨c20, rfl, h20⟩ := cell_int Tryd.underlying3 k20
    obtain ⟨c21, rfl, h21⟩ := cell_int Tryd.underlying3 k21
    obtain ⟨c22, rfl, h22⟩ := cell_int Tryd.underlying3 k22
    exact ⟨⟨⟨c0, ⟨c1, c2, c3, c4, c5, c6⟩, c7, c8, c9, c10⟩, ⟨c11, ⟨c12, c13, c14, c15, c16, c17⟩, c18, c19, c20, c21⟩, c22⟩, rfl⟩
end Go.Proofs.YteibhcocldihbaaDoor
namespace Go.Proofs.YteibhcocldihbaaDoor
open Go.RowKit
theorem info44 : (Tryd.prog.info? 44).map (·.size) = some 31 := by kernel_rfl
theorem notice_built : Tryd.prog.built 44 [(0, .int .i64 2)] = some Bp.notice.vals.toArray := by kernel_rfl
theorem two_built (f : Fl) : Tryd.prog.built 38 [(0, .bool f.change), (6, .bool f.ack)] = some f.two.vals.toArray := by kernel_rfl
@[reducible] def zFl : List Value := [.bool false, .bool false, .int .i64 0, .bool false, .bool false, .bool false, .bool false]
structure BpIn (w : World) (g : Nat) (b : Bp) : Prop where
  kind : w.cell? ⟨g, 0, none⟩ = some (.int .i64 b.kind)
  fl : w.rangeAt g 1 b.fl.vals
  root : w.rangeAt g 8 b.root.vals
  cost : w.cell? ⟨g, 16, none⟩ = some (.int .i64 b.cost)
  sender : w.rangeAt g 17 b.sender.vals
  port : w.rangeAt g 25 b.port.vals
  age : w.cell? ⟨g, 27, none⟩ = some (.int .i64 b.age)
  max : w.cell? ⟨g, 28, none⟩ = some (.int .i64 b.max)
  hello : w.cell? ⟨g, 29, none⟩ = some (.int .i64 b.hello)
  wait : w.cell? ⟨g, 30, none⟩ = some (.int .i64 b.wait)
theorem bp_in {w : World} {g : Nat} {b : Bp} (h : Box w g b.vals) : BpIn w g b := by
  have h0 := h.range
  have h1 : w.rangeAt g 1 (b.fl.vals ++ (b.root.vals ++ (.int .i64 b.cost :: (b.sender.vals ++ (b.port.vals ++ [.int .i64 b.age, .int .i64 b.max, .int .i64 b.hello, .int .i64 b.wait]))))) := by
    have := rng_right (a := [.int .i64 b.kind]) h0
    exact this
  have h2 : w.rangeAt g 8 (b.root.vals ++ (.int .i64 b.cost :: (b.sender.vals ++ (b.port.vals ++ [.int .i64 b.age, .int .i64 b.max, .int .i64 b.hello, .int .i64 b.wait])))) := rng_right (a := b.fl.vals) h1
  have h3 : w.rangeAt g 16 ([.int .i64 b.cost] ++ (b.sender.vals ++ (b.port.vals ++ [.int .i64 b.age, .int .i64 b.max, .int .i64 b.hello, .int .i64 b.wait]))) := rng_right (a := b.root.vals) h2
  have h4 : w.rangeAt g 17 (b.sender.vals ++ (b.port.vals ++ [.int .i64 b.age, .int .i64 b.max, .int .i64 b.hello, .int .i64 b.wait])) := rng_right h3
  have h5 : w.rangeAt g 25 (b.port.vals ++ [.int .i64 b.age, .int .i64 b.max, .int .i64 b.hello, .int .i64 b.wait]) := rng_right (a := b.sender.vals) h4
  exact ⟨h.cell 0, rng_left h1, rng_left h2, h.cell 16, rng_left h4, rng_left h5, h.cell 27, h.cell 28, h.cell 29, h.cell 30⟩
set_option maxRecDepth 100000 in
set_option maxHeartbeats 1000000 in
theorem times_any (l : List Int) (g cap n : Nat) (hn : l.length = n) (hm : n ≤ 100) (w : World) (h : ∀ i (hi : i < l.length), w.cell? ⟨g, i, none⟩ = some (.int .i64 l[i])) :
    Calls Tryd.prog 119 #[.slice (some ⟨g, 0, none⟩) n cap] w fun e w' => e = .returned (.bool (l.all sh)) ∧ w = w' := by
  have H := Lib.hid h
  have Hn := Lib.hid hn
  clear h hn
  go_enter Tryd.func119, Tryd.ntmps119
  go_wp2_with fail
  go_loop [7] (fun i => ∃ k : Nat, k ≤ n ∧ i = .int .i64 k ∧ Hid (∀ j (hj : j < l.length), j < k → sh l[j] = true)) (fun i => n - (intOf i).toNat)
  case atStart => exact ⟨0, by omega, rfl, Lib.hid (fun j _ h => by omega)⟩
  case round =>
    obtain ⟨k, hk, rfl, HA⟩ := hrel
    by_cases hlt : k < n
    · have hkl : k < l.length := by rw [Hn.out]; exact hlt
      have hc := H.out k hkl
      have Hs : Hid (∀ x, l[k] = x → sh x = true → ∀ j (hj : j < l.length), j < k + 1 → sh l[j] = true) := Lib.hid (fun x hx hs j hj hjk => by
        by_cases e : j = k
        · subst e; rw [hx]; exact hs
        · exact HA.out j hj (by omega))
      have Ha : Hid (∀ x, l[k] = x → sh x = false → l.all sh = false) := Lib.hid (fun x hx hs => by
        rw [List.all_eq_false]
        exact ⟨l[k], List.getElem_mem hkl, by rw [hx, hs]; exact Bool.false_ne_true⟩)
      generalize hx : l[k] = x at hc
      have Hx := Lib.hid hx
      clear hx
      by_cases h0 : x < 0
      · go_wp2_with fail
        go_ret
        exact ⟨by rw [Ha.out x Hx.out (by simp [sh]; omega)]; rfl, rfl⟩
      · by_cases h1 : 65535 < x
        · go_wp2_with fail
          go_ret
          exact ⟨by rw [Ha.out x Hx.out (by simp [sh]; omega)]; rfl, rfl⟩
        · go_wp2_with fail
          go_round
          case rel => exact ⟨k + 1, by omega, by go_num, Lib.hid (Hs.out x Hx.out (by simp [sh]; omega))⟩
          case measure => simp [intOf]; omega
    · go_wp2_with fail
      go_ret
      exact ⟨by rw [List.all_eq_true.2 (fun x hx => by
        obtain ⟨j, hj, rfl⟩ := List.getElem_of_mem hx
        exact HA.out j hj (by have := Hn.out; omega))]; rfl, rfl⟩
set_option maxRecDepth 100000 in
set_option maxHeartbeats 2000000 in
theorem bpRight_any (b : Bp) (w : World) :
    Calls Tryd.prog 60 #[.agg b.vals.toArray] w fun e w' => e = .returned (.bool b.okB) ∧ Below w.heap.size w w' := by
  have H0 := Lib.hid ((St.init w).alloc b.vals 44)
  go_enter Tryd.func60, Tryd.ntmps60
  go_upto_region 1 with (fail)
  generalize World.alloc _ _ = W0 at *
  have I0 := bp_in (Blk.box (H0.out.at 0 rfl))
  have R0 := Lib.hid I0.fl
  clear I0
  go_upto_region 2 with (first
    | (with_reducible refine wpList_load_rng (ty := 38) b.fl.vals (by with_unfolding_all rfl) R0.out Tryd.underlying38 (by with_unfolding_all rfl) (by with_unfolding_all exact info38) ?_)
    | (with_reducible refine wpList_store_blk (ty := 38) (o := 0) _ b.fl.vals (by with_unfolding_all rfl) (by with_unfolding_all rfl) (Blk.new W0 zFl 38) (by with_unfolding_all exact Nat.le_refl _) (by with_unfolding_all exact info38) (Fl.one _) (fun W1 hBW1 hoW1 => ?_)))
  have H1 : Hid (St w.heap.size w W1 [bk W0.heap.size 38 b.fl.vals, bk w.heap.size 44 b.vals]) := Lib.hid ((H0.out.alloc zFl 38).sets (L' := b.fl.vals) hBW1 hoW1)
  clear hBW1 hoW1 H0 R0
  generalize W0.heap.size = P at *
  have I1 := Lib.hid (bp_in (Blk.box (H1.out.at 1 rfl)))
  have c0 := I1.out.kind
  go_upto_block 0 with (fail)
  go_cut [] (fun wx => Hid (St w.heap.size w wx [bk P 38 b.fl.vals, bk w.heap.size 44 b.vals]) ∧ Hid (b.okB = b.restB))
  case first =>
    by_cases k2 : b.kind = 2
    · have hb2 : (b.kind == 2) = true := by simp [k2]
      have Hr : Hid (b.okB = decide (b = Bp.notice)) := Lib.hid (by unfold Bp.okB; rw [if_pos k2])
      have EN := bp_eq b Bp.notice
      have GN := fun p q => bp_guard .eql b Bp.notice p q
      have PB := Lib.hid notice_built
      clear k2
      generalize decide (b = Bp.notice) = q at *
      generalize Bp.notice = N at *
      go_wp2_with (first
        | (with_reducible refine wpList_load_rng (ty := 44) b.vals (by with_unfolding_all rfl) (Blk.box (H1.out.at 1 rfl)).range Tryd.underlying44 (by with_unfolding_all rfl) (by with_unfolding_all exact info44) ?_)
        | (with_reducible refine wpList_buildA (t := 44) [(0, .int .i64 2)] N.vals (by with_unfolding_all rfl) PB.out ?_))
      go_ret
      exact ⟨by rw [Hr.out]; rfl, H1.out.below⟩
    · have hb2 : (b.kind == 2) = false := by simp [k2]
      by_cases k1 : b.kind = 1
      · have hb1 : (b.kind == 1) = true := by simp [k1]
        have Hr : Hid (b.okB = (decide (b.fl = b.fl.two) && b.restB)) := Lib.hid (by unfold Bp.okB; rw [if_neg k2, if_pos k1])
        have d0 : W1.cell? ⟨P, 0, none⟩ = some (.bool b.fl.change) := (Blk.box (H1.out.at 0 rfl)).cell 0
        have d6 : W1.cell? ⟨P, 6, none⟩ = some (.bool b.fl.ack) := (Blk.box (H1.out.at 0 rfl)).cell 6
        have EN := fl_neq b.fl b.fl.two
        have GN := fun p q => fl_guard .neq b.fl b.fl.two p q
        have PB := Lib.hid (two_built b.fl)
        clear k1 k2
        cases hd : decide (b.fl = b.fl.two)
        · rw [hd] at EN Hr
          clear hd
          go_wp2_with (first
            | (with_reducible refine wpList_load_rng (ty := 38) b.fl.vals (by with_unfolding_all rfl) (Blk.box (H1.out.at 0 rfl)).range Tryd.underlying38 (by with_unfolding_all rfl) (by with_unfolding_all exact info38) ?_)
            | (with_reducible refine wpList_buildA (t := 38) [(0, .bool b.fl.change), (6, .bool b.fl.ack)] b.fl.two.vals (by with_unfolding_all rfl) PB.out ?_))
          go_ret
          exact ⟨by rw [Hr.out]; rfl, H1.out.below⟩
        · rw [hd] at EN Hr
          clear hd
          go_wp2_with (first
            | (with_reducible refine wpList_load_rng (ty := 38) b.fl.vals (by with_unfolding_all rfl) (Blk.box (H1.out.at 0 rfl)).range Tryd.underlying38 (by with_unfolding_all rfl) (by with_unfolding_all exact info38) ?_)
            | (with_reducible refine wpList_buildA (t := 38) [(0, .bool b.fl.change), (6, .bool b.fl.ack)] b.fl.two.vals (by with_unfolding_all rfl) PB.out ?_))
          go_meet
          exact ⟨H1, Lib.hid Hr.out⟩
      · have hb1 : (b.kind == 1) = false := by simp [k1]
        by_cases k3 : b.kind = 3
        · have hb3 : (b.kind == 3) = true := by simp [k3]
          have Hr : Hid (b.okB = (b.fl.okB && b.restB)) := Lib.hid (by unfold Bp.okB; rw [if_neg k2, if_neg k1, if_pos k3])
          clear k1 k2 k3
          cases hd : b.fl.okB
          · rw [hd] at Hr
            have Hd := Lib.hid hd
            clear hd
            go_wp2_with (first
              | (with_reducible refine wpList_load_rng (ty := 38) b.fl.vals (by with_unfolding_all rfl) (Blk.box (H1.out.at 0 rfl)).range Tryd.underlying38 (by with_unfolding_all rfl) (by with_unfolding_all exact info38) ?_)
              | ((with_reducible refine (flagsF_any b.fl _).mono ?_)
                 rintro e w2 ⟨rfl, hb2⟩
                 rw [Hd.out]
                 have H2 := Lib.hid (H1.out.ext hb2)))
            go_ret
            exact ⟨by rw [Hr.out]; rfl, H2.out.below⟩
          · rw [hd] at Hr
            have Hd := Lib.hid hd
            clear hd
            go_wp2_with (first
              | (with_reducible refine wpList_load_rng (ty := 38) b.fl.vals (by with_unfolding_all rfl) (Blk.box (H1.out.at 0 rfl)).range Tryd.underlying38 (by with_unfolding_all rfl) (by with_unfolding_all exact info38) ?_)
              | ((with_reducible refine (flagsF_any b.fl _).mono ?_)
                 rintro e w2 ⟨rfl, hb2⟩
                 rw [Hd.out]
                 have H2 := Lib.hid (H1.out.ext hb2)))
            go_meet
            exact ⟨H2, Lib.hid Hr.out⟩
        · have hb3 : (b.kind == 3) = false := by simp [k3]
          have Hr : Hid (b.okB = false) := Lib.hid (by unfold Bp.okB; rw [if_neg k2, if_neg k1, if_neg k3])
          clear k1 k2 k3
          go_wp2_with fail
          go_ret
          exact ⟨by rw [Hr.out]; rfl, H1.out.below⟩
  case rest =>
  obtain ⟨HS, HR⟩ := hcut
  clear H1 I1 c0
  generalize wc = w3 at *
  have HC : Hid (∀ W, St w.heap.size w W [bk P 38 b.fl.vals, bk w.heap.size 44 b.vals] → W.cell? ⟨w.heap.size, 16, none⟩ = some (.int .i64 b.cost) ∧ W.cell? ⟨w.heap.size, 17, none⟩ = some (.int .i64 b.sender.prio) ∧ W.cell? ⟨w.heap.size, 18, none⟩ = some (.int .i64 b.sender.ext) ∧ W.cell? ⟨w.heap.size, 19, none⟩ = some (.int .u8 b.sender.ad.a.toNat) ∧ W.cell? ⟨w.heap.size, 20, none⟩ = some (.int .u8 b.sender.ad.b.toNat) ∧ W.cell? ⟨w.heap.size, 21, none⟩ = some (.int .u8 b.sender.ad.c.toNat) ∧ W.cell? ⟨w.heap.size, 22, none⟩ = some (.int .u8 b.sender.ad.d.toNat) ∧ W.cell? ⟨w.heap.size, 23, none⟩ = some (.int .u8 b.sender.ad.e.toNat) ∧ W.cell? ⟨w.heap.size, 24, none⟩ = some (.int .u8 b.sender.ad.f.toNat) ∧ W.cell? ⟨w.heap.size, 25, none⟩ = some (.int .i64 b.port.prio) ∧ W.cell? ⟨w.heap.size, 26, none⟩ = some (.int .i64 b.port.no) ∧ W.cell? ⟨w.heap.size, 27, none⟩ = some (.int .i64 b.age) ∧ W.cell? ⟨w.heap.size, 28, none⟩ = some (.int .i64 b.max) ∧ W.cell? ⟨w.heap.size, 29, none⟩ = some (.int .i64 b.hello) ∧ W.cell? ⟨w.heap.size, 30, none⟩ = some (.int .i64 b.wait)) := Lib.hid (fun W h => by
    have B := Blk.box (h.at 1 rfl)
    exact ⟨B.cell 16, B.cell 17, B.cell 18, B.cell 19, B.cell 20, B.cell 21, B.cell 22, B.cell 23, B.cell 24, B.cell 25, B.cell 26, B.cell 27, B.cell 28, B.cell 29, B.cell 30⟩)
  have HSn : Hid (∀ W, Calls Tryd.prog 62 #[.agg #[.int .i64 b.sender.prio, .int .i64 b.sender.ext, .int .u8 b.sender.ad.a.toNat, .int .u8 b.sender.ad.b.toNat, .int .u8 b.sender.ad.c.toNat, .int .u8 b.sender.ad.d.toNat, .int .u8 b.sender.ad.e.toNat, .int .u8 b.sender.ad.f.toNat]] W fun e w' => e = .returned (.bool b.sender.okB) ∧ Below W.heap.size W w') := Lib.hid (fun W => prioRight_any b.sender W)
  have HPt : Hid (∀ W, Calls Tryd.prog 118 #[.agg #[.int .i64 b.port.prio, .int .i64 b.port.no]] W fun e w' => e = .returned (.bool b.port.okB) ∧ Below W.heap.size W w') := Lib.hid (fun W => prioPort_any b.port W)
  have hT : b.restB = (b.root.okB && (b.sender.okB && (b.port.okB && (decide (0 ≤ b.cost) && (decide (b.cost < 4294967296) && [b.age, b.max, b.hello, b.wait].all sh))))) := by simp [Bp.restB, tm, sh]
  have RT := Lib.hid (bp_in (Blk.box (HS.out.at 1 rfl))).root
  have HE := Lib.hid (HR.out.trans hT)
  clear hT HR
  cases hx : b.root.okB
  · rw [hx] at HE
    have Hx := Lib.hid hx
    clear hx
    go_wp2_with (first
      | (with_reducible refine wpList_load_rng (ty := 40) b.root.vals (by with_unfolding_all rfl) RT.out Tryd.underlying40 (by with_unfolding_all rfl) (by with_unfolding_all exact info40) ?_)
      | ((with_reducible refine (prioRight_any b.root w3).mono ?_)
         rintro e w4 ⟨rfl, hb4⟩
         rw [Hx.out]
         have H4 := Lib.hid (HS.out.ext hb4)
         obtain ⟨k16, k17, k18, k19, k20, k21, k22, k23, k24, k25, k26, k27, k28, k29, k30⟩ := HC.out _ H4.out
         clear hb4)
      | ((with_reducible refine (HSn.out _).mono ?_)
         rintro e w5 ⟨rfl, hb5⟩
         rw [Hy.out]
         have H5 := Lib.hid (H4.out.ext hb5)
         obtain ⟨k16, k17, k18, k19, k20, k21, k22, k23, k24, k25, k26, k27, k28, k29, k30⟩ := HC.out _ H5.out
         clear hb5)
      | ((with_reducible refine (HPt.out _).mono ?_)
         rintro e w6 ⟨rfl, hb6⟩
         rw [Hz.out]
         have H6 := Lib.hid (H5.out.ext hb6)
         obtain ⟨k16, k17, k18, k19, k20, k21, k22, k23, k24, k25, k26, k27, k28, k29, k30⟩ := HC.out _ H6.out
         clear hb6)
      | ((with_reducible refine (times_any [b.age, b.max, b.hello, b.wait] _ _ 4 rfl (by decide) _ (four_cells b.age b.max b.hello b.wait rfl)).mono ?_)
         rintro e w7 ⟨rfl, rfl⟩
         rw [Ht.out]))
    go_ret
    exact ⟨by rw [HE.out]; rfl, H4.out.below⟩
  · rw [hx] at HE
    have Hx := Lib.hid hx
    clear hx
    cases hy : b.sender.okB
    · rw [hy] at HE
      have Hy := Lib.hid hy
      clear hy
      go_wp2_with (first
        | (with_reducible refine wpList_load_rng (ty := 40) b.root.vals (by with_unfolding_all rfl) RT.out Tryd.underlying40 (by with_unfolding_all rfl) (by with_unfolding_all exact info40) ?_)
        | ((with_reducible refine (prioRight_any b.root w3).mono ?_)
           rintro e w4 ⟨rfl, hb4⟩
           rw [Hx.out]
           have H4 := Lib.hid (HS.out.ext hb4)
           obtain ⟨k16, k17, k18, k19, k20, k21, k22, k23, k24, k25, k26, k27, k28, k29, k30⟩ := HC.out _ H4.out
           clear hb4)
        | ((with_reducible refine (HSn.out _).mono ?_)
           rintro e w5 ⟨rfl, hb5⟩
           rw [Hy.out]
           have H5 := Lib.hid (H4.out.ext hb5)
           obtain ⟨k16, k17, k18, k19, k20, k21, k22, k23, k24, k25, k26, k27, k28, k29, k30⟩ := HC.out _ H5.out
           clear hb5)
        | ((with_reducible refine (HPt.out _).mono ?_)
           rintro e w6 ⟨rfl, hb6⟩
           rw [Hz.out]
           have H6 := Lib.hid (H5.out.ext hb6)
           obtain ⟨k16, k17, k18, k19, k20, k21, k22, k23, k24, k25, k26, k27, k28, k29, k30⟩ := HC.out _ H6.out
           clear hb6)
        | ((with_reducible refine (times_any [b.age, b.max, b.hello, b.wait] _ _ 4 rfl (by decide) _ (four_cells b.age b.max b.hello b.wait rfl)).mono ?_)
           rintro e w7 ⟨rfl, rfl⟩
           rw [Ht.out]))
      go_ret
      exact ⟨by rw [HE.out]; rfl, H5.out.below⟩
    · rw [hy] at HE
      have Hy := Lib.hid hy
      clear hy
      cases hz : b.port.okB
      · rw [hz] at HE
        have Hz := Lib.hid hz
        clear hz
        go_wp2_with (first
          | (with_reducible refine wpList_load_rng (ty := 40) b.root.vals (by with_unfolding_all rfl) RT.out Tryd.underlying40 (by with_unfolding_all rfl) (by with_unfolding_all exact info40) ?_)
          | ((with_reducible refine (prioRight_any b.root w3).mono ?_)
             rintro e w4 ⟨rfl, hb4⟩
             rw [Hx.out]
             have H4 := Lib.hid (HS.out.ext hb4)
             obtain ⟨k16, k17, k18, k19, k20, k21, k22, k23, k24, k25, k26, k27, k28, k29, k30⟩ := HC.out _ H4.out
             clear hb4)
          | ((with_reducible refine (HSn.out _).mono ?_)
             rintro e w5 ⟨rfl, hb5⟩
             rw [Hy.out]
             have H5 := Lib.hid (H4.out.ext hb5)
             obtain ⟨k16, k17, k18, k19, k20, k21, k22, k23, k24, k25, k26, k27, k28, k29, k30⟩ := HC.out _ H5.out
             clear hb5)
          | ((with_reducible refine (HPt.out _).mono ?_)
             rintro e w6 ⟨rfl, hb6⟩
             rw [Hz.out]
             have H6 := Lib.hid (H5.out.ext hb6)
             obtain ⟨k16, k17, k18, k19, k20, k21, k22, k23, k24, k25, k26, k27, k28, k29, k30⟩ := HC.out _ H6.out
             clear hb6)
          | ((with_reducible refine (times_any [b.age, b.max, b.hello, b.wait] _ _ 4 rfl (by decide) _ (four_cells b.age b.max b.hello b.wait rfl)).mono ?_)
             rintro e w7 ⟨rfl, rfl⟩
             rw [Ht.out]))
        go_ret
        exact ⟨by rw [HE.out]; rfl, H6.out.below⟩
      · rw [hz] at HE
        have Hz := Lib.hid hz
        clear hz
        by_cases hc0 : 0 ≤ b.cost
        · by_cases hc1 : b.cost < 4294967296
          · cases ht : [b.age, b.max, b.hello, b.wait].all sh
            all_goals
              rw [ht, decide_eq_true hc0, decide_eq_true hc1] at HE
              have Ht := Lib.hid ht
              clear ht
              go_wp2_with (first
                | (with_reducible refine wpList_load_rng (ty := 40) b.root.vals (by with_unfolding_all rfl) RT.out Tryd.underlying40 (by with_unfolding_all rfl) (by with_unfolding_all exact info40) ?_)
                | ((with_reducible refine (prioRight_any b.root w3).mono ?_)
                   rintro e w4 ⟨rfl, hb4⟩
                   rw [Hx.out]
                   have H4 := Lib.hid (HS.out.ext hb4)
                   obtain ⟨k16, k17, k18, k19, k20, k21, k22, k23, k24, k25, k26, k27, k28, k29, k30⟩ := HC.out _ H4.out
                   clear hb4)
                | ((with_reducible refine (HSn.out _).mono ?_)
                   rintro e w5 ⟨rfl, hb5⟩
                   rw [Hy.out]
                   have H5 := Lib.hid (H4.out.ext hb5)
                   obtain ⟨k16, k17, k18, k19, k20, k21, k22, k23, k24, k25, k26, k27, k28, k29, k30⟩ := HC.out _ H5.out
                   clear hb5)
                | ((with_reducible refine (HPt.out _).mono ?_)
                   rintro e w6 ⟨rfl, hb6⟩
                   rw [Hz.out]
                   have H6 := Lib.hid (H5.out.ext hb6)
                   obtain ⟨k16, k17, k18, k19, k20, k21, k22, k23, k24, k25, k26, k27, k28, k29, k30⟩ := HC.out _ H6.out
                   clear hb6)
                | ((with_reducible refine (times_any [b.age, b.max, b.hello, b.wait] _ _ 4 rfl (by decide) _ (four_cells b.age b.max b.hello b.wait rfl)).mono ?_)
                   rintro e w7 ⟨rfl, rfl⟩
                   rw [Ht.out]))
              go_ret
              exact ⟨by rw [HE.out]; rfl, H6.out.below.alloc H6.out.below.size _⟩
          · rw [decide_eq_true hc0, decide_eq_false hc1] at HE
            go_wp2_with (first
              | (with_reducible refine wpList_load_rng (ty := 40) b.root.vals (by with_unfolding_all rfl) RT.out Tryd.underlying40 (by with_unfolding_all rfl) (by with_unfolding_all exact info40) ?_)
              | ((with_reducible refine (prioRight_any b.root w3).mono ?_)
                 rintro e w4 ⟨rfl, hb4⟩
                 rw [Hx.out]
                 have H4 := Lib.hid (HS.out.ext hb4)
                 obtain ⟨k16, k17, k18, k19, k20, k21, k22, k23, k24, k25, k26, k27, k28, k29, k30⟩ := HC.out _ H4.out
                 clear hb4)
              | ((with_reducible refine (HSn.out _).mono ?_)
                 rintro e w5 ⟨rfl, hb5⟩
                 rw [Hy.out]
                 have H5 := Lib.hid (H4.out.ext hb5)
                 obtain ⟨k16, k17, k18, k19, k20, k21, k22, k23, k24, k25, k26, k27, k28, k29, k30⟩ := HC.out _ H5.out
                 clear hb5)
              | ((with_reducible refine (HPt.out _).mono ?_)
                 rintro e w6 ⟨rfl, hb6⟩
                 rw [Hz.out]
                 have H6 := Lib.hid (H5.out.ext hb6)
                 obtain ⟨k16, k17, k18, k19, k20, k21, k22, k23, k24, k25, k26, k27, k28, k29, k30⟩ := HC.out _ H6.out
                 clear hb6)
              | ((with_reducible refine (times_any [b.age, b.max, b.hello, b.wait] _ _ 4 rfl (by decide) _ (four_cells b.age b.max b.hello b.wait rfl)).mono ?_)
                 rintro e w7 ⟨rfl, rfl⟩
                 rw [Ht.out]))
            go_ret
            exact ⟨by rw [HE.out]; rfl, H6.out.below⟩
        · rw [decide_eq_false hc0] at HE
          go_wp2_with (first
            | (with_reducible refine wpList_load_rng (ty := 40) b.root.vals (by with_unfolding_all rfl) RT.out Tryd.underlying40 (by with_unfolding_all rfl) (by with_unfolding_all exact info40) ?_)
            | ((with_reducible refine (prioRight_any b.root w3).mono ?_)
               rintro e w4 ⟨rfl, hb4⟩
               rw [Hx.out]
               have H4 := Lib.hid (HS.out.ext hb4)
               obtain ⟨k16, k17, k18, k19, k20, k21, k22, k23, k24, k25, k26, k27, k28, k29, k30⟩ := HC.out _ H4.out
               clear hb4)
            | ((with_reducible refine (HSn.out _).mono ?_)
               rintro e w5 ⟨rfl, hb5⟩
               rw [Hy.out]
               have H5 := Lib.hid (H4.out.ext hb5)
               obtain ⟨k16, k17, k18, k19, k20, k21, k22, k23, k24, k25, k26, k27, k28, k29, k30⟩ := HC.out _ H5.out
               clear hb5)
            | ((with_reducible refine (HPt.out _).mono ?_)
               rintro e w6 ⟨rfl, hb6⟩
               rw [Hz.out]
               have H6 := Lib.hid (H5.out.ext hb6)
               obtain ⟨k16, k17, k18, k19, k20, k21, k22, k23, k24, k25, k26, k27, k28, k29, k30⟩ := HC.out _ H6.out
               clear hb6)
            | ((with_reducible refine (times_any [b.age, b.max, b.hello, b.wait] _ _ 4 rfl (by decide) _ (four_cells b.age b.max b.hello b.wait rfl)).mono ?_)
               rintro e w7 ⟨rfl, rfl⟩
               rw [Ht.out]))
          go_ret
          exact ⟨by rw [HE.out]; rfl, H6.out.below⟩
end Go.Proofs.YteibhcocldihbaaDoor
namespace Go.Proofs.YteibhcocldihbaaDoor
open Go.RowKit
def bodyOf (kind : Int) (f : Fl) (r : Br) (c : Int) (s : Br) (p : Pt) : Bp := ⟨kind, f, r, c, s, p, 0, 0, 0, 0⟩
theorem kind_built (kind : Int) : Tryd.prog.built 44 [(0, .int .i64 kind)] = some (bodyOf kind Fl.zero Br.zero 0 Br.zero Pt.zero).vals.toArray := by kernel_rfl
@[reducible] def zBp : List Value := [.int .i64 0, .bool false, .bool false, .int .i64 0, .bool false, .bool false, .bool false, .bool false, .int .i64 0, .int .i64 0, .int .u8 0, .int .u8 0, .int .u8 0, .int .u8 0, .int .u8 0, .int .u8 0, .int .i64 0, .int .i64 0, .int .i64 0, .int .u8 0, .int .u8 0, .int .u8 0, .int .u8 0, .int .u8 0, .int .u8 0, .int .i64 0, .int .i64 0, .int .i64 0, .int .i64 0, .int .i64 0, .int .i64 0]
section
variable {B : Nat} {w0 w : World} {A : List It} {b g : Nat} {R : RS}
theorem readBr_e (H : St B w0 w (rd b R g :: A)) :
    Calls Tryd.prog 68 #[.pointer (some ⟨b, 0, none⟩)] w fun e w' => ∃ x R', readBrM R = (x, R') ∧ e = .returned (.agg x.vals.toArray) ∧ RdTo B w0 b R' A w' :=
  (readBr_st H).mono fun _ _ h => ⟨_, _, rfl, h.1, h.2⟩
theorem readPt_e (H : St B w0 w (rd b R g :: A)) :
    Calls Tryd.prog 122 #[.pointer (some ⟨b, 0, none⟩)] w fun e w' => ∃ x R', readPtM R = (x, R') ∧ e = .returned (.agg x.vals.toArray) ∧ RdTo B w0 b R' A w' :=
  (readPt_st H).mono fun _ _ h => ⟨_, _, rfl, h.1, h.2⟩
set_option maxRecDepth 100000 in
set_option maxHeartbeats 4000000 in
theorem readBody_st (H : St B w0 w (rd b R g :: A)) (kind : Int) :
    Calls Tryd.prog 66 #[.pointer (some ⟨b, 0, none⟩), .int .i64 kind] w fun e w' => e = .returned (.agg (readBodyM R kind).1.vals.toArray) ∧ RdTo B w0 b (readBodyM R kind).2 A w' := by
  have H1 := Lib.hid (H.alloc zBp 44).swap
  clear H
  have PB := Lib.hid (kind_built kind)
  go_enter Tryd.func66, Tryd.ntmps66
  go_upto_region 1 with (fail)
  unfold zBp at H1
  generalize World.alloc _ _ = w1 at *
  have H1 : Hid (St B w0 w1 (rd b R g :: bk w.heap.size 44 Bp.zero.vals :: A)) := H1
  go_upto_region 2 with (first
    | (with_reducible refine wpList_buildA (t := 44) [(0, .int .i64 kind)] (bodyOf kind Fl.zero Br.zero 0 Br.zero Pt.zero).vals (by with_unfolding_all rfl) PB.out ?_)
    | (with_reducible refine wpList_store_blk (ty := 44) (o := 0) _ (bodyOf kind Fl.zero Br.zero 0 Br.zero Pt.zero).vals (by with_unfolding_all rfl) (by with_unfolding_all rfl) (Blk.new w1 zBp 44) (by with_unfolding_all exact Nat.le_refl _) (by with_unfolding_all exact info44) (Bp.one _) (fun W2 hBW2 hoW2 => ?_)))
  have H2 : Hid (St B w0 W2 (rd b R g :: bk w1.heap.size 44 (bodyOf kind Fl.zero Br.zero 0 Br.zero Pt.zero).vals :: bk w.heap.size 44 Bp.zero.vals :: A)) := Lib.hid ((H1.out.alloc zBp 44).sets (L' := (bodyOf kind Fl.zero Br.zero 0 Br.zero Pt.zero).vals) hBW2 hoW2).swap
  clear hBW2 hoW2 H1
  generalize w1.heap.size = P at *
  go_wp2_with fail
  refine (num_e H2.out 1 (by decide) (by decide)).mono ?_
  rintro e w3 ⟨n3, R3, e3, l3, rfl, g3, h3⟩
  have E3 := Lib.hid e3
  have H3 := Lib.hid h3
  clear e3 h3 H2
  go_upto_region 3 with (first
    | ((with_reducible refine (of_any n3 (by omega) _).mono ?_)
       rintro e w4 ⟨rfl, hb4⟩
       have H4 := Lib.hid (H3.out.ext hb4)
       clear hb4)
    | (with_reducible refine wpList_store_blk (ty := 38) (o := 1) _ (Fl.of n3).vals (by with_unfolding_all rfl) (by with_unfolding_all rfl) (H4.out.at 1 rfl) (by with_unfolding_all exact Nat.le_of_ble_eq_true rfl) (by with_unfolding_all exact info38) (Fl.one _) (fun W5 hBW5 hoW5 => ?_)))
  have H5 : Hid (St B w0 W5 (rd b R3 g3 :: bk P 44 (bodyOf kind (Fl.of n3) Br.zero 0 Br.zero Pt.zero).vals :: bk w.heap.size 44 Bp.zero.vals :: A)) := Lib.hid ((H4.out.pull 1 rfl).sets (L' := (bodyOf kind (Fl.of n3) Br.zero 0 Br.zero Pt.zero).vals) hBW5 hoW5).swap
  clear hBW5 hoW5 H4 H3
  go_wp2_with fail
  refine (readBr_e H5.out).mono ?_
  rintro e w6 ⟨x6, R6, e6, rfl, g6, h6⟩
  have E6 := Lib.hid e6
  have H6 := Lib.hid h6
  clear e6 h6 H5
  go_upto_region 4 with (first
    | (with_reducible refine wpList_store_blk (ty := 40) (o := 8) _ x6.vals (by with_unfolding_all rfl) (by with_unfolding_all rfl) (H6.out.at 1 rfl) (by with_unfolding_all exact Nat.le_of_ble_eq_true rfl) (by with_unfolding_all exact info40) (Br.one _) (fun W7 hBW7 hoW7 => ?_)))
  have H7 : Hid (St B w0 W7 (rd b R6 g6 :: bk P 44 (bodyOf kind (Fl.of n3) x6 0 Br.zero Pt.zero).vals :: bk w.heap.size 44 Bp.zero.vals :: A)) := Lib.hid ((H6.out.pull 1 rfl).sets (L' := (bodyOf kind (Fl.of n3) x6 0 Br.zero Pt.zero).vals) hBW7 hoW7).swap
  clear hBW7 hoW7 H6
  go_wp2_with fail
  refine (num_e H7.out 4 (by decide) (by decide)).mono ?_
  rintro e w8 ⟨n8, R8, e8, l8, rfl, g8, h8⟩
  have E8 := Lib.hid e8
  have H8 := Lib.hid h8
  clear e8 h8 H7
  have c8 : w8.cell? ⟨P, 16, none⟩ = some (.int .i64 0) := (H8.out.pull 1 rfl).cell 16
  have z8 := (H8.out.pull 1 rfl).frozen 16
  go_upto_region 5 with (fail)
  have H9 : Hid (St B w0 _ (rd b R8 g8 :: bk P 44 (bodyOf kind (Fl.of n3) x6 n8 Br.zero Pt.zero).vals :: bk w.heap.size 44 Bp.zero.vals :: A)) := Lib.hid ((H8.out.pull 1 rfl).set 16 (.int .i64 (n8 : Int)) (by rw [Bp.len]; decide)).swap
  clear c8 z8 H8
  generalize World.setCell _ _ _ = w9 at *
  go_wp2_with fail
  refine (readBr_e H9.out).mono ?_
  rintro e w10 ⟨x10, R10, e10, rfl, g10, h10⟩
  have E10 := Lib.hid e10
  have H10 := Lib.hid h10
  clear e10 h10 H9
  go_upto_region 6 with (first
    | (with_reducible refine wpList_store_blk (ty := 40) (o := 17) _ x10.vals (by with_unfolding_all rfl) (by with_unfolding_all rfl) (H10.out.at 1 rfl) (by with_unfolding_all exact Nat.le_of_ble_eq_true rfl) (by with_unfolding_all exact info40) (Br.one _) (fun W11 hBW11 hoW11 => ?_)))
  have H11 : Hid (St B w0 W11 (rd b R10 g10 :: bk P 44 (bodyOf kind (Fl.of n3) x6 n8 x10 Pt.zero).vals :: bk w.heap.size 44 Bp.zero.vals :: A)) := Lib.hid ((H10.out.pull 1 rfl).sets (L' := (bodyOf kind (Fl.of n3) x6 n8 x10 Pt.zero).vals) hBW11 hoW11).swap
  clear hBW11 hoW11 H10
  go_wp2_with fail
  refine (readPt_e H11.out).mono ?_
  rintro e w12 ⟨x12, R12, e12, rfl, g12, h12⟩
  have E12 := Lib.hid e12
  have H12 := Lib.hid h12
  clear e12 h12 H11
  go_upto_region 7 with (first
    | (with_reducible refine wpList_store_blk (ty := 42) (o := 25) _ x12.vals (by with_unfolding_all rfl) (by with_unfolding_all rfl) (H12.out.at 1 rfl) (by with_unfolding_all exact Nat.le_of_ble_eq_true rfl) (by with_unfolding_all exact info42) (Pt.one _) (fun W13 hBW13 hoW13 => ?_)))
  have H13 : Hid (St B w0 W13 (rd b R12 g12 :: bk P 44 (bodyOf kind (Fl.of n3) x6 n8 x10 x12).vals :: bk w.heap.size 44 Bp.zero.vals :: A)) := Lib.hid ((H12.out.pull 1 rfl).sets (L' := (bodyOf kind (Fl.of n3) x6 n8 x10 x12).vals) hBW13 hoW13).swap
  clear hBW13 hoW13 H12
  go_wp2_with fail
  refine (num_e H13.out 2 (by decide) (by decide)).mono ?_
  rintro e w14 ⟨n14, R14, e14, l14, rfl, g14, h14⟩
  have E14 := Lib.hid e14
  have H14 := Lib.hid h14
  clear e14 h14 H13
  go_wp2_with fail
  refine (num_e H14.out 2 (by decide) (by decide)).mono ?_
  rintro e w15 ⟨n15, R15, e15, l15, rfl, g15, h15⟩
  have E15 := Lib.hid e15
  have H15 := Lib.hid h15
  clear e15 h15 H14
  go_wp2_with fail
  refine (num_e H15.out 2 (by decide) (by decide)).mono ?_
  rintro e w16 ⟨n16, R16, e16, l16, rfl, g16, h16⟩
  have E16 := Lib.hid e16
  have H16 := Lib.hid h16
  clear e16 h16 H15
  go_wp2_with fail
  refine (num_e H16.out 2 (by decide) (by decide)).mono ?_
  rintro e w17 ⟨n17, R17, e17, l17, rfl, g17, h17⟩
  have E17 := Lib.hid e17
  have H17 := Lib.hid h17
  clear e17 h17 H16
  have c27 : w17.cell? ⟨P, 27, none⟩ = some (.int .i64 0) := (H17.out.pull 1 rfl).cell 27
  have z27 := (H17.out.pull 1 rfl).frozen 27
  have c28 : w17.cell? ⟨P, 28, none⟩ = some (.int .i64 0) := (H17.out.pull 1 rfl).cell 28
  have z28 := (H17.out.pull 1 rfl).frozen 28
  have c29 : w17.cell? ⟨P, 29, none⟩ = some (.int .i64 0) := (H17.out.pull 1 rfl).cell 29
  have z29 := (H17.out.pull 1 rfl).frozen 29
  have c30 : w17.cell? ⟨P, 30, none⟩ = some (.int .i64 0) := (H17.out.pull 1 rfl).cell 30
  have z30 := (H17.out.pull 1 rfl).frozen 30
  go_upto_region 8 with (fail)
  have h18 := (((((H17.out.pull 1 rfl).set 27 (.int .i64 (n14 : Int)) (by rw [Bp.len]; decide)).set 28 (.int .i64 (n15 : Int)) (by simp [Bp.len])).set 29 (.int .i64 (n16 : Int)) (by simp [Bp.len])).set 30 (.int .i64 (n17 : Int)) (by simp [Bp.len])).swap
  obtain ⟨X, hX⟩ : ∃ X : Bp, X = ⟨kind, Fl.of n3, x6, n8, x10, x12, n14, n15, n16, n17⟩ := ⟨_, rfl⟩
  have H18 : Hid (St B w0 _ (rd b R17 g17 :: bk P 44 X.vals :: bk w.heap.size 44 Bp.zero.vals :: A)) := Lib.hid (by rw [hX]; exact h18)
  have HX := Lib.hid hX
  clear h18 c27 z27 c28 z28 c29 z29 c30 z30 H17 hX
  generalize World.setCell _ _ _ = w18 at *
  have R18' := Lib.hid (Blk.box (H18.out.at 1 rfl)).range
  have B18' := Lib.hid (H18.out.at 2 rfl)
  go_wp2_with (first
    | (with_reducible refine wpList_load_rng (ty := 44) X.vals (by with_unfolding_all rfl) R18'.out Tryd.underlying44 (by with_unfolding_all rfl) (by with_unfolding_all exact info44) ?_)
    | (with_reducible refine wpList_store_blk (ty := 44) (o := 0) _ X.vals (by with_unfolding_all rfl) (by with_unfolding_all rfl) B18'.out (by with_unfolding_all exact Nat.le_refl _) (by with_unfolding_all exact info44) (Bp.one _) (fun W19 hBW19 hoW19 => ?_)))
  have hE : readBodyM R kind = (X, R17) := by
    rw [HX.out]
    unfold readBodyM
    simp only [E3.out, E6.out, E8.out, E10.out, E12.out, E14.out, E15.out, E16.out, E17.out]
  rw [hE]
  have h19 := (H18.out.pull 2 rfl).sets (L' := X.vals) hBW19 hoW19
  refine ret_cell (cs := X.vals) Tryd.results66 (by rfl) (Blk.box h19.head).range Tryd.underlying44 rfl info44 rfl ⟨rfl, g17, (h19.tail.swap).tail⟩
end
end Go.Proofs.YteibhcocldihbaaDoor
namespace Go.Proofs.YteibhcocldihbaaDoor
open Go.RowKit
set_option maxRecDepth 100000 in
set_option maxHeartbeats 4000000 in
theorem bodyF_ok (b : Bp) (hb : b.Rest) (hf : b.fl.okB = true) (w : World) :
    Calls Tryd.prog 57 #[.agg b.vals.toArray] w fun e w' => e = .returned (.string ⟨b.body.toArray⟩) ∧ Below w.heap.size w w' := by
  have H0 := Lib.hid ((St.init w).alloc b.vals 44)
  have P1 := Lib.hid (pack_ok b.root hb.root)
  have P2 := Lib.hid (pack_ok b.sender hb.sender)
  have P3 := Lib.hid (packPort_ok b.port hb.port)
  have FB := Lib.hid (fun W => byteF_any b.fl hf W)
  have hfb := Fl.byte_lt b.fl hf
  obtain ⟨a4, a5, a6, a7, a8, a9, a10, a11, a12, a13⟩ := (⟨hb.cost0, hb.cost1, hb.age0, hb.age1, hb.max0, hb.max1, hb.hello0, hb.hello1, hb.wait0, hb.wait1⟩ : _ ∧ _ ∧ _ ∧ _ ∧ _ ∧ _ ∧ _ ∧ _ ∧ _ ∧ _)
  have M1 : Hid (∀ W, Calls Tryd.prog 43 #[.int .i64 (b.fl.byte : Int), .int .i64 1] W fun e w' => e = .returned (.string ⟨(beBytes b.fl.byte 1).toArray⟩) ∧ Below W.heap.size W w') := Lib.hid (fun W => must_ok b.fl.byte 1 (by decide) (by decide) (by omega) W)
  have M2 : Hid (∀ W, Calls Tryd.prog 43 #[.int .i64 b.cost, .int .i64 4] W fun e w' => e = .returned (.string ⟨(beBytes b.cost.toNat 4).toArray⟩) ∧ Below W.heap.size W w') := Lib.hid (fun W => by
    have := must_ok b.cost.toNat 4 (by decide) (by decide) (by omega) W
    rwa [Int.toNat_of_nonneg a4] at this)
  have MT : ∀ x : Int, 0 ≤ x → x ≤ 65535 → Hid (∀ W, Calls Tryd.prog 43 #[.int .i64 x, .int .i64 2] W fun e w' => e = .returned (.string ⟨(beBytes x.toNat 2).toArray⟩) ∧ Below W.heap.size W w') := fun x h0 h1 => Lib.hid (fun W => by
    have := must_ok x.toNat 2 (by decide) (by decide) (by omega) W
    rwa [Int.toNat_of_nonneg h0] at this)
  have M3 := MT b.age a6 a7
  have M4 := MT b.max a8 a9
  have M5 := MT b.hello a10 a11
  have M6 := MT b.wait a12 a13
  have LR : b.root.bytes.length ≤ 8 := Nat.le_of_eq (Br.bytes_len _)
  have LS : b.sender.bytes.length ≤ 8 := Nat.le_of_eq (Br.bytes_len _)
  have LP : b.port.bytes.length ≤ 2 := Nat.le_of_eq (Pt.bytes_len _)
  have L1 : (beBytes b.fl.byte 1).length ≤ 1 := Nat.le_of_eq (beBytes_len _ _)
  have L2 : (beBytes b.cost.toNat 4).length ≤ 4 := Nat.le_of_eq (beBytes_len _ _)
  have L3 : (beBytes b.age.toNat 2).length ≤ 2 := Nat.le_of_eq (beBytes_len _ _)
  have L4 : (beBytes b.max.toNat 2).length ≤ 2 := Nat.le_of_eq (beBytes_len _ _)
  have L5 : (beBytes b.hello.toNat 2).length ≤ 2 := Nat.le_of_eq (beBytes_len _ _)
  have L6 : (beBytes b.wait.toNat 2).length ≤ 2 := Nat.le_of_eq (beBytes_len _ _)
  have hBody : b.body = beBytes b.fl.byte 1 ++ b.root.bytes ++ beBytes b.cost.toNat 4 ++ b.sender.bytes ++ b.port.bytes ++ beBytes b.age.toNat 2 ++ beBytes b.max.toNat 2 ++ beBytes b.hello.toNat 2 ++ beBytes b.wait.toNat 2 := rfl
  have HBody := Lib.hid hBody
  clear MT hBody a4 a5 a6 a7 a8 a9 a10 a11 a12 a13 hfb hb
  generalize beBytes b.fl.byte 1 = B1 at *
  generalize beBytes b.cost.toNat 4 = B2 at *
  generalize beBytes b.age.toNat 2 = B3 at *
  generalize beBytes b.max.toNat 2 = B4 at *
  generalize beBytes b.hello.toNat 2 = B5 at *
  generalize beBytes b.wait.toNat 2 = B6 at *
  generalize b.root.bytes = BR at *
  generalize b.sender.bytes = BS at *
  generalize b.port.bytes = BP at *
  go_enter Tryd.func57, Tryd.ntmps57
  go_upto_region 1 with (fail)
  generalize World.alloc _ _ = W0 at *
  have R0 := Lib.hid (bp_in (Blk.box (H0.out.at 0 rfl))).root
  go_upto_region 2 with (first
    | (with_reducible refine wpList_load_rng (ty := 40) b.root.vals (by with_unfolding_all rfl) R0.out Tryd.underlying40 (by with_unfolding_all rfl) (by with_unfolding_all exact info40) ?_)
    | ((with_reducible refine (P1.out _).mono ?_)
       rintro e w1 ⟨rfl, hb1⟩
       have H1 := Lib.hid (H0.out.ext hb1)
       clear hb1))
  have R1 := Lib.hid (bp_in (Blk.box (H1.out.at 0 rfl))).sender
  go_upto_region 3 with (first
    | (with_reducible refine wpList_load_rng (ty := 40) b.sender.vals (by with_unfolding_all rfl) R1.out Tryd.underlying40 (by with_unfolding_all rfl) (by with_unfolding_all exact info40) ?_)
    | ((with_reducible refine (P2.out _).mono ?_)
       rintro e w2 ⟨rfl, hb2⟩
       have H2 := Lib.hid (H1.out.ext hb2)
       clear hb2))
  have R2 := Lib.hid (bp_in (Blk.box (H2.out.at 0 rfl))).port
  go_upto_region 4 with (first
    | (with_reducible refine wpList_load_rng (ty := 42) b.port.vals (by with_unfolding_all rfl) R2.out Tryd.underlying42 (by with_unfolding_all rfl) (by with_unfolding_all exact info42) ?_)
    | ((with_reducible refine (P3.out _).mono ?_)
       rintro e w3 ⟨rfl, hb3⟩
       have H3 := Lib.hid (H2.out.ext hb3)
       clear hb3))
  have I3 := bp_in (Blk.box (H3.out.at 0 rfl))
  have l3 : w.heap.size < w3.heap.size := (H3.out.at 0 rfl).lt
  have c16 := I3.cost
  have c27 := I3.age
  have c28 := I3.max
  have c29 := I3.hello
  have c30 := I3.wait
  have BX := Blk.box (H3.out.at 0 rfl)
  have f1 : w3.cell? ⟨w.heap.size, 1, none⟩ = some (.bool b.fl.change) := BX.cell 1
  have f2 : w3.cell? ⟨w.heap.size, 2, none⟩ = some (.bool b.fl.proposal) := BX.cell 2
  have f3 : w3.cell? ⟨w.heap.size, 3, none⟩ = some (.int .i64 b.fl.role) := BX.cell 3
  have f4 : w3.cell? ⟨w.heap.size, 4, none⟩ = some (.bool b.fl.learn) := BX.cell 4
  have f5 : w3.cell? ⟨w.heap.size, 5, none⟩ = some (.bool b.fl.pass) := BX.cell 5
  have f6 : w3.cell? ⟨w.heap.size, 6, none⟩ = some (.bool b.fl.agree) := BX.cell 6
  have f7 : w3.cell? ⟨w.heap.size, 7, none⟩ = some (.bool b.fl.ack) := BX.cell 7
  have FB' : Hid (∀ W, Calls Tryd.prog 58 #[.agg #[.bool b.fl.change, .bool b.fl.proposal, .int .i64 b.fl.role, .bool b.fl.learn, .bool b.fl.pass, .bool b.fl.agree, .bool b.fl.ack]] W fun e w' => e = .returned (.int .i64 (b.fl.byte : Int)) ∧ Below W.heap.size W w') := Lib.hid (fun W => FB.out W)
  clear I3 BX FB
  refine wp_region_ext (by kernel_rfl) (by kernel_rfl) ?_
  repeat (go_big_quiet_step (first
    | (with_reducible exact Calls.ext _ (FB'.out _))
    | (with_reducible exact Calls.ext _ (M1.out _))
    | (with_reducible exact Calls.ext _ (M2.out _))
    | (with_reducible exact Calls.ext _ (M3.out _))
    | (with_reducible exact Calls.ext _ (M4.out _))
    | (with_reducible exact Calls.ext _ (M5.out _))
    | (with_reducible exact Calls.ext _ (M6.out _))))
  refine wpQuiet_nil ?_
  rintro w4 ⟨⟨_, hb4⟩, rfl⟩
  go_wp2_with fail
  go_ret
  exact ⟨by rw [HBody.out]; simp [List.append_assoc], (H3.out.ext hb4).below⟩
end Go.Proofs.YteibhcocldihbaaDoor
namespace Go.Proofs.YteibhcocldihbaaDoor
open Go.RowKit
end Go.Proofs.YteibhcocldihbaaDoor

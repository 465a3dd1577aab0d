/- pause.Read, whatever is read. -/
import Derived.Test.YtidcjbanhdpkkaaDoorPa1
import Derived.Deep.CutBlock
namespace Go.Proofs.YtidcjbanhdpkkaaDoor
open Go.RowKit
theorem Pa.of_set (b : Bool) (e : Int) (l : List Nat) (v : Nat) (hl : l.length < 8) : (Pa.of b e l).vals.set (2 + l.length) (.int .i64 (v : Int)) = (Pa.of b e (l ++ [v])).vals := by
  match l, hl with
  | [], _ => rfl
  | [_], _ => rfl
  | [_, _], _ => rfl
  | [_, _, _], _ => rfl
  | [_, _, _, _], _ => rfl
  | [_, _, _, _, _], _ => rfl
  | [_, _, _, _, _, _], _ => rfl
  | [_, _, _, _, _, _, _], _ => rfl
  | _ :: _ :: _ :: _ :: _ :: _ :: _ :: _ :: _, h => simp only [List.length_cons] at h; omega
def paGot (s : List UInt8) (g : Nat) : Value := if (readPaM s).2.1 = true then .tuple #[.agg (readPaM s).1.vals.toArray, .nilIface] else .tuple #[.agg zPa.vals.toArray, errV (readPaM s).2.2 g]
theorem numsM_succ {R : RS} {k v : Nat} {Rv : RS} (e : numM (numsM R k).2 2 = (v, Rv)) : numsM R (k + 1) = ((numsM R k).1 ++ [v], Rv) := by simp only [numsM, e]
set_option maxRecDepth 100000 in
set_option maxHeartbeats 4000000 in
theorem paRead_any (s : List UInt8) (hs : s.length ≤ 4611686018427387904) (w : World) :
    Calls Tryd.prog 25 #[.string ⟨s.toArray⟩] w fun e w' => ∃ b g, e = .returned (paGot s g) ∧ St w.heap.size w w' (rd b (readPaM s).2.2 g :: []) := by
  have H1 := Lib.hid ((St.init w).alloc zPause 60)
  go_enter Tryd.func25, Tryd.ntmps25
  go_upto_region 1 with (fail)
  unfold zPause at H1
  generalize World.alloc _ _ = w1 at *
  have H1 : Hid (St w.heap.size w w1 (bk w.heap.size 60 zPa.vals :: [])) := H1
  go_wp2_with fail
  refine (new_st H1.out s 0 (by simpa using hs)).mono ?_
  rintro e w2 ⟨rfl, h2⟩
  have H2 := Lib.hid h2
  clear h2 H1
  generalize hb : w1.heap.size = b at *
  clear hb
  go_upto_region 3 with (fail)
  have H2 := Lib.hid (H2.out.alloc zPause 60).swap
  unfold zPause at H2
  generalize World.alloc _ _ = w0 at *
  generalize hP : w2.heap.size = P at *
  clear hP
  obtain ⟨w2, hw2⟩ : ∃ W, w0 = W := ⟨_, rfl⟩
  subst hw2
  have H2 : Hid (St w.heap.size w w0 (rd b (newM s 0) 0 :: bk P 60 zPa.vals :: bk w.heap.size 60 zPa.vals :: [])) := H2
  go_wp2_with fail
  refine (num_e H2.out 2 (by decide) (by decide)).mono ?_
  rintro e w3 ⟨n3, R3, e3, l3, rfl, g3, h3⟩
  have E3 := Lib.hid e3
  have H3 := Lib.hid h3
  clear e3 h3 H2
  go_upto_block 0 with (fail)
  go_cut [] (fun wx => ∃ x R g, Hid (readPaM s = (x, zerosM R)) ∧ Hid (St w.heap.size w wx (rd b R g :: bk P 60 x.vals :: bk w.heap.size 60 zPa.vals :: [])))
  case first =>
    go_upto_region 5 with (fail)
    obtain ⟨cond, hcd⟩ : ∃ c, decide (R3.err ≠ none) = c := ⟨_, rfl⟩
    have Hcd := Lib.hid hcd
    clear hcd
    go_cut [14] (fun c wx => c = .bool cond ∧ wx = w3)
    case first =>
      cases he : R3.err with
      | some x =>
        obtain rfl : cond = true := by rw [← Hcd.out, he]; simp
        have He := Lib.hid (errV_some he g3)
        clear he
        go_wp2_with (first
          | ((with_reducible refine (err_st H3.out).mono ?_)
             rintro e w6 ⟨rfl, rfl⟩
             rw [He.out]))
        go_meet
        exact ⟨rfl, rfl⟩
      | none =>
        obtain rfl : cond = false := by rw [← Hcd.out, he]; simp
        have He := Lib.hid (errV_none he g3)
        clear he
        go_wp2_with (first
          | ((with_reducible refine (err_st H3.out).mono ?_)
             rintro e w6 ⟨rfl, rfl⟩
             rw [He.out]))
        go_meet
        exact ⟨rfl, rfl⟩
    case rest =>
    obtain ⟨rfl, rfl⟩ := hcut
    go_upto_if 14 with (fail)
    cases he : R3.err with
    | some x =>
      have hM : readPaM s = (zPa, zerosM R3) := by
        unfold readPaM; simp only [E3.out, he]; rfl
      have HM := Lib.hid hM
      obtain rfl : cond = true := by rw [← Hcd.out, he]; simp
      clear he hM
      go_wp2_with fail
      go_meet
      exact ⟨_, _, _, HM, H3⟩
    | none =>
      obtain rfl : cond = false := by rw [← Hcd.out, he]; simp
      by_cases h1 : n3 = 1
      · have hb1 : ((n3 : Int) == 1) = true := by rw [h1]; rfl
        have hM : readPaM s = (Pa.of false 0 [(numM R3 2).1], zerosM (numM R3 2).2) := by
          unfold readPaM; simp only [E3.out, he, h1]; rfl
        have HM := Lib.hid hM
        clear he hM h1
        go_wp2_with fail
        refine (num_e H3.out 2 (by decide) (by decide)).mono ?_
        rintro e w5 ⟨n5, R5, e5, l5, rfl, g5, h5⟩
        have H5 := Lib.hid h5
        have c5 : w5.cell? ⟨P, 2, none⟩ = some (.int .i64 0) := (H5.out.pull 1 rfl).cell 2
        have z5 := (H5.out.pull 1 rfl).frozen 2
        have hM' : readPaM s = (Pa.of false 0 [n5], zerosM R5) := by rw [HM.out, e5]
        have HM' := Lib.hid hM'
        clear e5 h5 hM' HM
        go_wp2_with fail
        go_meet
        exact ⟨_, _, g5, HM', Lib.hid ((H5.out.pull 1 rfl).set 2 (.int .i64 (n5 : Int)) (by rw [Pa.len]; decide)).swap⟩
      · have hb1 : ((n3 : Int) == 1) = false := by rw [beq_eq_false_iff_ne]; omega
        by_cases h2 : n3 = 257
        · have hb2 : ((n3 : Int) == 257) = true := by rw [h2]; rfl
          have hM : readPaM s = (Pa.of true ((numM R3 2).1 : Int) (numsM (if 255 < (numM R3 2).1 then failM (numM R3 2).2 2 2 else (numM R3 2).2) 8).1,
              zerosM (numsM (if 255 < (numM R3 2).1 then failM (numM R3 2).2 2 2 else (numM R3 2).2) 8).2) := by
            unfold readPaM; simp only [E3.out, he, h2]; rfl
          have HM := Lib.hid hM
          have c3 := (H3.out.pull 1 rfl).cell 0
          rw [show zPa.vals.toArray[0]? = some (.bool false) from rfl] at c3
          have z3 := (H3.out.pull 1 rfl).frozen 0
          clear he hM h1 h2
          go_upto_region 10 with (fail)
          have H4 : Hid (St w.heap.size w _ (rd b R3 g3 :: bk P 60 (Pa.of true 0 []).vals :: bk w.heap.size 60 zPa.vals :: [])) := Lib.hid ((H3.out.pull 1 rfl).set 0 (.bool true) (by rw [Pa.len]; decide)).swap
          clear c3 z3 H3
          generalize World.setCell _ _ _ = w4 at *
          go_wp2_with fail
          refine (num_e H4.out 2 (by decide) (by decide)).mono ?_
          rintro e w5 ⟨n5, R5, e5, l5, rfl, g5, h5⟩
          have E5 := Lib.hid e5
          have H5 := Lib.hid h5
          clear e5 h5 H4
          have c5 : w5.cell? ⟨P, 1, none⟩ = some (.int .i64 0) := (H5.out.pull 1 rfl).cell 1
          have z5 := (H5.out.pull 1 rfl).frozen 1
          go_upto_region 11 with (fail)
          have H6 : Hid (St w.heap.size w _ (rd b R5 g5 :: bk P 60 (Pa.of true n5 []).vals :: bk w.heap.size 60 zPa.vals :: [])) := Lib.hid ((H5.out.pull 1 rfl).set 1 (.int .i64 (n5 : Int)) (by rw [Pa.len]; decide)).swap
          clear c5 z5 H5
          generalize World.setCell _ _ _ = w6 at *
          have c6 : w6.cell? ⟨P, 1, none⟩ = some (.int .i64 (n5 : Int)) := (H6.out.pull 1 rfl).cell 1
          go_upto_if 34 with (fail)
          go_cut [] (fun wx => RdTo w.heap.size w b (if 255 < n5 then failM R5 2 2 else R5) [bk P 60 (Pa.of true n5 []).vals, bk w.heap.size 60 zPa.vals] wx)
          case first =>
            by_cases h255 : 255 < n5
            · have hI : (255 : Int) < (n5 : Int) := by omega
              go_wp2_with (first
                | ((with_reducible refine (fail_st H6.out 2 _).mono ?_)
                   rintro e w7 ⟨rfl, h7⟩
                   have H7 := Lib.hid h7
                   clear h7))
              go_meet
              rw [if_pos h255]
              exact H7.out
            · have hI : ¬ (255 : Int) < (n5 : Int) := by omega
              go_wp2_with fail
              go_meet
              rw [if_neg h255]
              exact ⟨g5, H6.out⟩
          case rest =>
          have hM' : ∀ F, (if 255 < n5 then failM R5 2 2 else R5) = F → readPaM s = (Pa.of true (n5 : Int) (numsM F 8).1, zerosM (numsM F 8).2) := by
            intro F hF
            rw [HM.out]
            simp only [E5.out, hF]
          generalize (if 255 < n5 then failM R5 2 2 else R5) = F at *
          have HM' := Lib.hid (hM' F rfl)
          obtain ⟨g8, h8⟩ := hcut
          have H8 := Lib.hid h8
          clear hM' HM h8 H6 E5 c6
          generalize wc = w8 at *
          go_upto_region 14 with (fail)
          go_loopw [37] (fun i wr => ∃ (k : Nat) (L : List Nat) (R : RS) (g : Nat), k ≤ 8 ∧ i = .int .i64 k ∧ L.length = k ∧ Hid (numsM F k = (L, R)) ∧ Hid (St w.heap.size w wr (rd b R g :: bk P 60 (Pa.of true n5 L).vals :: bk w.heap.size 60 zPa.vals :: []))) (fun i _ => 8 - (intOf i).toNat)
          case atStart => exact ⟨0, [], F, g8, by omega, rfl, rfl, Lib.hid rfl, H8⟩
          case round =>
            obtain ⟨k, L, R, g, hk, rfl, hL, HN, HS⟩ := hrel
            by_cases hlt8 : k < 8
            · go_wp2_with fail
              refine (num_e HS.out 2 (by decide) (by decide)).mono ?_
              rintro e w9 ⟨n9, R9, e9, l9, rfl, g9, h9⟩
              have hst := Pa.of_set true (n5 : Int) L n9 (by omega)
              rw [hL] at hst
              have hN9 : numsM F (k + 1) = (L ++ [n9], R9) := by
                have := numsM_succ (R := F) (k := k) (v := n9) (Rv := R9) (by rw [HN.out]; exact e9)
                rw [this, HN.out]
              have HN9 := Lib.hid hN9
              have H9 := Lib.hid h9
              obtain ⟨old, c9⟩ : ∃ old, w9.cell? ⟨P, 2 + k, none⟩ = some old := ⟨_, ((H9.out.pull 1 rfl).cell (2 + k)).trans (by rw [List.getElem?_toArray, List.getElem?_eq_getElem (by rw [Pa.len]; omega)])⟩
              have z9 := (H9.out.pull 1 rfl).frozen (2 + k)
              have Hst := Lib.hid hst
              have hL9 : (L ++ [n9]).length = k + 1 := by rw [List.length_append, hL]; rfl
              have HL9 := Lib.hid hL9
              clear e9 h9 hN9 hst HN HS hL9 hL
              go_wp2_with fail
              have h10 := ((H9.out.pull 1 rfl).set (2 + k) (.int .i64 (n9 : Int)) (by rw [Pa.len]; omega)).swap
              rw [Hst.out] at h10
              have H10 := Lib.hid h10
              clear h10
              go_roundw
              case rel => exact ⟨k + 1, L ++ [n9], R9, g9, by omega, by go_num, HL9.out, HN9, H10⟩
              case measure => simp [intOf]; omega
            · have hk8 : k = 8 := by omega
              have hn8 := HN.out
              rw [hk8] at hn8
              have hM9 : readPaM s = (Pa.of true (n5 : Int) L, zerosM R) := by rw [HM'.out, hn8]
              have HM9 := Lib.hid hM9
              clear hk8 hn8 hM9 HM' HN hL
              go_wp2_with fail
              go_meet
              exact ⟨_, _, g, HM9, HS⟩
        · have hb2 : ((n3 : Int) == 257) = false := by rw [beq_eq_false_iff_ne]; omega
          have hM : readPaM s = (zPa, zerosM (failM R3 3 0)) := by
            unfold readPaM; simp only [E3.out, he, if_neg h1, if_neg h2]; rfl
          have HM := Lib.hid hM
          clear he hM h1 h2
          go_wp2_with (first
            | ((with_reducible refine (fail_st H3.out 3 _).mono ?_)
               rintro e w6 ⟨rfl, g6, h6⟩
               have H6 := Lib.hid h6
               clear h6))
          go_meet
          exact ⟨_, _, g6, HM, H6⟩
  case rest =>
  obtain ⟨x, R, g, HM, HS⟩ := hcut
  clear H3 E3
  generalize wc = w15 at *
  go_wp2_with fail
  refine (zeros_e HS.out).mono ?_
  rintro e w17 ⟨ok, R17, e17, rfl, g17, h17⟩
  have hE : readPaM s = (x, ok, R17) := by rw [HM.out, e17]
  have HE := Lib.hid hE
  have H17 := Lib.hid h17
  clear e17 h17 hE HS HM
  have B17 := Lib.hid (H17.out.at 2 rfl)
  have R17' := Lib.hid (Blk.box (H17.out.at 1 rfl)).range
  cases ok
  · go_wp2_with (first
      | (with_reducible refine wpList_buildA (t := 60) [] zPa.vals (by with_unfolding_all rfl) pa_zero ?_)
      | ((with_reducible refine (err_st H17.out).mono ?_)
         rintro e w18 ⟨rfl, rfl⟩
         skip)
      | (with_reducible refine wpList_store_blk (ty := 60) (o := 0) _ zPa.vals (by with_unfolding_all rfl) (by with_unfolding_all rfl) B17.out (by with_unfolding_all exact Nat.le_refl _) (by with_unfolding_all exact info60) (Pa.one zPa) (fun W19 hBW19 hoW19 => ?_)))
    have h19 := (H17.out.pull 2 rfl).sets (L' := zPa.vals) hBW19 hoW19
    refine ret_cell2 (cs := zPa.vals) Tryd.results25 (by rfl) (by rfl) (Blk.box h19.head).range Tryd.underlying60 rfl info60 rfl ⟨b, g17, ?_, ?_⟩
    · unfold paGot; rw [HE.out]; rfl
    · rw [HE.out]; exact h19.tail.swap.tail
  · go_wp2_with (first
      | (with_reducible refine wpList_load_rng (ty := 60) x.vals (by with_unfolding_all rfl) R17'.out Tryd.underlying60 (by with_unfolding_all rfl) (by with_unfolding_all exact info60) ?_)
      | (with_reducible refine wpList_store_blk (ty := 60) (o := 0) _ x.vals (by with_unfolding_all rfl) (by with_unfolding_all rfl) B17.out (by with_unfolding_all exact Nat.le_refl _) (by with_unfolding_all exact info60) (Pa.one _) (fun W19 hBW19 hoW19 => ?_)))
    have h19 := (H17.out.pull 2 rfl).sets (L' := x.vals) hBW19 hoW19
    refine ret_cell2 (cs := x.vals) Tryd.results25 (by rfl) (by rfl) (Blk.box h19.head).range Tryd.underlying60 rfl info60 rfl ⟨b, g17, ?_, ?_⟩
    · unfold paGot; rw [HE.out]; rfl
    · rw [HE.out]; exact h19.tail.swap.tail
end Go.Proofs.YtidcjbanhdpkkaaDoor

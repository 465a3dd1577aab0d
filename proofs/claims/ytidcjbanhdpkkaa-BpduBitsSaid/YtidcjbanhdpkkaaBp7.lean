/- bpdu.Read, whatever is read. -/
import Derived.Test.YtidcjbanhdpkkaaBp4
import Derived.Test.YtidcjbanhdpkkaaBp6
import Derived.Test.YtidcjbanhdpkkaaBpduM3
namespace Go.Proofs.Ytidcjbanhdpkkaa
open Go.RowKit
/-- Which kind has been seen, once the kinds below k have been tried. -/
def kindTo (h : List UInt8 × RS) (k : Nat) : Int := if kindM h < k then kindM h else 0
def Bp.onlyK (k : Int) : Bp := ⟨k, Fl.zero, Br.zero, 0, Br.zero, Pt.zero, 0, 0, 0, 0⟩
theorem kindM_le (h : List UInt8 × RS) : 0 ≤ kindM h ∧ kindM h ≤ 3 := by
  unfold kindM
  split
  · split
    · decide
    · split
      · decide
      · split <;> decide
  · decide
theorem kindTo_one (h : List UInt8 × RS) : kindTo h 1 = 0 := by
  have := kindM_le h
  unfold kindTo
  split <;> omega
theorem kindTo_four (h : List UInt8 × RS) : kindTo h 4 = kindM h := by
  have := kindM_le h
  unfold kindTo
  rw [if_pos (by omega)]
theorem kindTo_no {h : List UInt8 × RS} {k : Nat} (hk : kindM h ≠ k) : kindTo h (k + 1) = kindTo h k := by
  unfold kindTo
  split <;> split <;> omega
theorem kindTo_yes {h : List UInt8 × RS} {k : Nat} (hk : kindM h = k) : kindTo h (k + 1) = k := by
  unfold kindTo
  rw [if_pos (by omega), hk]
theorem kindM_not {h : List UInt8 × RS} {k : Nat} (h1 : 1 ≤ k) (h3 : k ≤ 3) (hn : h.1 ≠ headB k) : kindM h ≠ k := by
  unfold kindM
  intro e
  have hk : k = 1 ∨ k = 2 ∨ k = 3 := by omega
  split at e
  · split at e
    · rename_i hc; apply hn; rw [← e]; exact hc
    · split at e
      · rename_i hc; apply hn; rw [← e]; exact hc
      · split at e
        · rename_i hc; apply hn; rw [← e]; exact hc
        · omega
  · omega
def bpGot (s : List UInt8) (g : Nat) : Value := if (readBpM s).2.err = none then .tuple #[.agg (readBpM s).1.vals.toArray, .nilIface] else .tuple #[.agg Bp.zero.vals.toArray, errV (readBpM s).2 g]
theorem bp_zero : Try.prog.built 94 [] = some Bp.zero.vals.toArray := by kernel_rfl
theorem readBody_e {B : Nat} {w0 w : World} {A : List It} {b g : Nat} {R : RS} (H : St B w0 w (rd b R g :: A)) (kind : Int) :
    Calls Try.prog 59 #[.pointer (some ⟨b, 0, none⟩), .int .i64 kind] w fun e w' => ∃ x R', readBodyM R kind = (x, R') ∧ e = .returned (.agg x.vals.toArray) ∧ RdTo B w0 b R' A w' :=
  (readBody_st H kind).mono fun _ _ h => ⟨_, _, rfl, h.1, h.2⟩
set_option maxRecDepth 100000 in
set_option maxHeartbeats 4000000 in
theorem bpRead_any (s : List UInt8) (hs : s.length ≤ 4611686018427387904) (w : World) :
    Calls Try.prog 44 #[.string ⟨s.toArray⟩] w fun e w' => ∃ b g, e = .returned (bpGot s g) ∧ St w.heap.size w w' (rd b (readBpM s).2 g :: []) := by
  have H1 := Lib.hid ((St.init w).alloc zBp 94)
  go_enter Try.func44, Try.ntmps44
  go_upto_region 1 with (fail)
  unfold zBp at H1
  generalize World.alloc _ _ = w1 at *
  have H1 : Hid (St w.heap.size w w1 (bk w.heap.size 94 Bp.zero.vals :: [])) := H1
  go_wp2_with fail
  refine (new_st H1.out s 0 (by simpa using hs)).mono ?_
  rintro e w2 ⟨rfl, h2⟩
  have H2 := Lib.hid h2
  clear h2 H1
  generalize hb : w1.heap.size = b at *
  clear hb
  go_wp2_with fail
  refine (bytes_e H2.out 4 (by decide)).mono ?_
  rintro e w3 ⟨n3, R3, e3, l3, rfl, g3, h3⟩
  have E3 := Lib.hid e3
  have H3 := Lib.hid h3
  clear e3 h3 H2
  go_upto_region 4 with (fail)
  have H3 := Lib.hid (H3.out.alloc zBp 94).swap
  unfold zBp at H3
  generalize World.alloc _ _ = w0 at *
  generalize hP : w3.heap.size = P at *
  clear hP
  obtain ⟨w3, hw3⟩ : ∃ W, w0 = W := ⟨_, rfl⟩
  subst hw3
  have H3 : Hid (St w.heap.size w w0 (rd b R3 g3 :: bk P 94 (Bp.onlyK 0).vals :: bk w.heap.size 94 Bp.zero.vals :: [])) := H3
  go_upto_region 5 with (fail)
  go_loopw [7] (fun i wr => ∃ k : Nat, 1 ≤ k ∧ k ≤ 4 ∧ i = .int .i64 k ∧ Hid (St w.heap.size w wr (rd b R3 g3 :: bk P 94 (Bp.onlyK (kindTo (n3, R3) k)).vals :: bk w.heap.size 94 Bp.zero.vals :: []))) (fun i _ => 4 - (intOf i).toNat)
  case atStart => exact ⟨1, by omega, by omega, rfl, by rw [kindTo_one]; exact H3⟩
  case round =>
    obtain ⟨k, hk1, hk4, rfl, HS⟩ := hrel
    by_cases hlt : k < 4
    · have HH := Lib.hid (headF_any (k : Int) (by omega))
      have kI : (k : Int) ≤ 3 := by omega
      cases he : R3.err with
      | some x =>
        have He := Lib.hid (errV_some he g3)
        have hkt : kindTo (n3, R3) (k + 1) = kindTo (n3, R3) k := kindTo_no (by rw [kindM_err (by rw [he]; simp)]; omega)
        have Hkt := Lib.hid hkt
        clear he hkt
        go_wp2_with (first
          | ((with_reducible refine (err_st HS.out).mono ?_)
             rintro e w6 ⟨rfl, rfl⟩
             rw [He.out]))
        go_roundw
        case rel => exact ⟨k + 1, by omega, by omega, by go_num, by rw [Hkt.out]; exact HS⟩
        case measure => simp [intOf]; omega
      | none =>
        have He := Lib.hid (errV_none he g3)
        by_cases hg : n3 = headB k
        · have hkt : kindTo (n3, R3) (k + 1) = k := kindTo_yes (kindM_head (h := (n3, R3)) he k (by omega) hg)
          have Hkt := Lib.hid hkt
          have hbe : (n3 == headB (k : Int)) = true := by simp [hg]
          have c5 := (HS.out.pull 1 rfl).cell 0
          rw [show (Bp.onlyK (kindTo (n3, R3) k)).vals.toArray[0]? = some (.int .i64 (kindTo (n3, R3) k)) from rfl] at c5
          have z5 := (HS.out.pull 1 rfl).frozen 0
          generalize headB (k : Int) = hd at *
          clear he hkt hg
          generalize kindTo (n3, R3) k = kk at *
          go_wp2_with (first
            | ((with_reducible refine (err_st HS.out).mono ?_)
               rintro e w6 ⟨rfl, rfl⟩
               rw [He.out])
            | ((with_reducible refine (HH.out _).mono ?_)
               rintro e w7 ⟨rfl, rfl⟩
               skip))
          have h10 := ((HS.out.pull 1 rfl).set 0 (.int .i64 (k : Int)) (by rw [Bp.len]; omega)).swap
          have H10 : Hid (St w.heap.size w _ (rd b R3 g3 :: bk P 94 (Bp.onlyK k).vals :: bk w.heap.size 94 Bp.zero.vals :: [])) := Lib.hid h10
          clear h10
          go_roundw
          case rel => exact ⟨k + 1, by omega, by omega, by go_num, by rw [Hkt.out]; exact H10⟩
          case measure => simp [intOf]; omega
        · have hkt : kindTo (n3, R3) (k + 1) = kindTo (n3, R3) k := kindTo_no (kindM_not (h := (n3, R3)) hk1 (by omega) hg)
          have Hkt := Lib.hid hkt
          have hbe : (n3 == headB (k : Int)) = false := by rw [beq_eq_false_iff_ne]; exact hg
          generalize headB (k : Int) = hd at *
          clear he hkt hg
          go_wp2_with (first
            | ((with_reducible refine (err_st HS.out).mono ?_)
               rintro e w6 ⟨rfl, rfl⟩
               rw [He.out])
            | ((with_reducible refine (HH.out _).mono ?_)
               rintro e w7 ⟨rfl, rfl⟩
               skip))
          go_roundw
          case rel => exact ⟨k + 1, by omega, by omega, by go_num, by rw [Hkt.out]; exact HS⟩
          case measure => simp [intOf]; omega
    · have hk4' : k = 4 := by omega
      subst hk4'
      rw [kindTo_four] at HS
      clear hlt hk1 hk4 H3
      have hkl := kindM_le (n3, R3)
      generalize hK : kindM (n3, R3) = K at *
      have HK := Lib.hid hK
      clear hK
      have cK : wr.cell? ⟨P, 0, none⟩ = some (.int .i64 K) := (HS.out.pull 1 rfl).cell 0
      go_upto_block 2 with (fail)
      go_cut [] (fun wx => ∃ x R g, Hid (readBpM s = (x, R)) ∧ Hid (St w.heap.size w wx (rd b R g :: bk P 94 x.vals :: bk w.heap.size 94 Bp.zero.vals :: [])))
      case first =>
        have hcase : K = 0 ∨ K = 1 ∨ K = 2 ∨ K = 3 := by omega
        clear hkl
        rcases hcase with rfl | rfl | rfl | rfl
        · have hM : readBpM s = (Bp.zero, failM R3 3 0) := by
            unfold readBpM; simp only [E3.out, HK.out]; rfl
          have HM := Lib.hid hM
          clear hM
          go_wp2_with (first
            | ((with_reducible refine (fail_st HS.out 3 _).mono ?_)
               rintro e w6 ⟨rfl, g6, h6⟩
               have H6 := Lib.hid h6
               clear h6))
          go_meet
          exact ⟨_, _, g6, HM, H6⟩
        · go_wp2_with fail
          refine (readBody_e HS.out 1).mono ?_
          rintro e w6 ⟨x6, R6, e6, rfl, g6, h6⟩
          have E6 := Lib.hid e6
          have H6 := Lib.hid h6
          clear e6 h6 HS cK
          go_upto_region 12 with (first
            | (with_reducible refine wpList_store_blk (ty := 94) (o := 0) _ x6.vals (by with_unfolding_all rfl) (by with_unfolding_all rfl) (H6.out.at 1 rfl) (by with_unfolding_all exact Nat.le_refl _) (by with_unfolding_all exact info94) (Bp.one _) (fun W7 hBW7 hoW7 => ?_)))
          have H7 : Hid (St w.heap.size w W7 (rd b R6 g6 :: bk P 94 x6.vals :: bk w.heap.size 94 Bp.zero.vals :: [])) := Lib.hid ((H6.out.pull 1 rfl).sets (L' := x6.vals) hBW7 hoW7).swap
          clear hBW7 hoW7 H6
          have B7 := Blk.box (H7.out.at 1 rfl)
          have c1 : W7.cell? ⟨P, 1, none⟩ = some (.bool x6.fl.change) := B7.cell 1
          have c7 : W7.cell? ⟨P, 7, none⟩ = some (.bool x6.fl.ack) := B7.cell 7
          clear B7
          have T6 := Lib.hid (two_built x6.fl)
          go_wp2_with (first
            | (with_reducible refine wpList_buildA (t := 46) [(0, .bool x6.fl.change), (6, .bool x6.fl.ack)] x6.fl.two.vals (by with_unfolding_all rfl) T6.out ?_)
            | (with_reducible refine wpList_store_blk (ty := 46) (o := 1) _ x6.fl.two.vals (by with_unfolding_all rfl) (by with_unfolding_all rfl) (H7.out.at 1 rfl) (by with_unfolding_all exact Nat.le_of_ble_eq_true rfl) (by with_unfolding_all exact info46) (Fl.one _) (fun W8 hBW8 hoW8 => ?_)))
          have H8 : Hid (St w.heap.size w W8 (rd b R6 g6 :: bk P 94 (Bp.vals { x6 with fl := x6.fl.two }) :: bk w.heap.size 94 Bp.zero.vals :: [])) := Lib.hid ((H7.out.pull 1 rfl).sets (L' := Bp.vals { x6 with fl := x6.fl.two }) hBW8 hoW8).swap
          go_meet
          exact ⟨_, _, g6, Lib.hid (by unfold readBpM; simp only [E3.out, HK.out, E6.out]; rfl), H8⟩
        · have hM : readBpM s = (Bp.notice, R3) := by
            unfold readBpM; simp only [E3.out, HK.out]; rfl
          have HM := Lib.hid hM
          clear hM
          go_wp2_with fail
          go_meet
          exact ⟨_, _, g3, HM, HS⟩
        · go_wp2_with fail
          refine (readBody_e HS.out 3).mono ?_
          rintro e w6 ⟨x6, R6, e6, rfl, g6, h6⟩
          have E6 := Lib.hid e6
          have H6 := Lib.hid h6
          clear e6 h6 HS cK
          go_upto_region 15 with (first
            | (with_reducible refine wpList_store_blk (ty := 94) (o := 0) _ x6.vals (by with_unfolding_all rfl) (by with_unfolding_all rfl) (H6.out.at 1 rfl) (by with_unfolding_all exact Nat.le_refl _) (by with_unfolding_all exact info94) (Bp.one _) (fun W7 hBW7 hoW7 => ?_)))
          have H7 : Hid (St w.heap.size w W7 (rd b R6 g6 :: bk P 94 x6.vals :: bk w.heap.size 94 Bp.zero.vals :: [])) := Lib.hid ((H6.out.pull 1 rfl).sets (L' := x6.vals) hBW7 hoW7).swap
          clear hBW7 hoW7 H6
          go_wp2_with fail
          refine (at_st H7.out).mono ?_
          rintro e w8 ⟨rfl, h8⟩
          have H8 := Lib.hid h8
          clear h8 H7
          go_wp2_with fail
          refine (num_e H8.out 1 (by decide) (by decide)).mono ?_
          rintro e w9 ⟨n9, R9, e9, l9, rfl, g9, h9⟩
          have E9 := Lib.hid e9
          have H9 := Lib.hid h9
          clear e9 h9 H8
          by_cases h0 : n9 = 0
          · have hb0 : ((n9 : Int) != 0) = false := by rw [h0]; rfl
            have hM : readBpM s = (x6, R9) := by
              unfold readBpM; simp only [E3.out, HK.out, E6.out, E9.out, h0]; rfl
            have HM := Lib.hid hM
            clear hM h0
            go_wp2_with fail
            go_meet
            exact ⟨_, _, g9, HM, H9⟩
          · have hb0 : ((n9 : Int) != 0) = true := by rw [bne_iff_ne]; omega
            have hM : readBpM s = (x6, failM R9 3 (R6.place : Int)) := by
              unfold readBpM; simp only [E3.out, HK.out, E6.out, E9.out]
              rw [if_neg (by decide), if_pos trivial, if_pos h0]
            have HM := Lib.hid hM
            clear hM h0
            go_wp2_with (first
              | ((with_reducible refine (fail_st H9.out 3 _).mono ?_)
                 rintro e w10 ⟨rfl, g10, h10⟩
                 have H10 := Lib.hid h10
                 clear h10))
            go_meet
            exact ⟨_, _, g10, HM, H10⟩
      case rest =>
      obtain ⟨x, R, g, HM, H17⟩ := hcut
      clear HS cK
      generalize wc = w17 at *
      have B17 := Lib.hid (H17.out.at 2 rfl)
      have R17' := Lib.hid (Blk.box (H17.out.at 1 rfl)).range
      cases he : R.err with
      | some y =>
        have He := Lib.hid (errV_some he g)
        have hG : bpGot s g = .tuple #[.agg Bp.zero.vals.toArray, errV R g] := by
          unfold bpGot; rw [HM.out, if_neg (by simp [he])]
        have HG := Lib.hid hG
        clear he hG
        go_wp2_with (first
          | (with_reducible refine wpList_buildA (t := 94) [] Bp.zero.vals (by with_unfolding_all rfl) bp_zero ?_)
          | ((with_reducible refine (err_st H17.out).mono ?_)
             rintro e w18 ⟨rfl, rfl⟩
             rw [He.out])
          | (with_reducible refine wpList_store_blk (ty := 94) (o := 0) _ Bp.zero.vals (by with_unfolding_all rfl) (by with_unfolding_all rfl) B17.out (by with_unfolding_all exact Nat.le_refl _) (by with_unfolding_all exact info94) (Bp.one _) (fun W19 hBW19 hoW19 => ?_)))
        have h19 := (H17.out.pull 2 rfl).sets (L' := Bp.zero.vals) hBW19 hoW19
        refine ret_cell2 (cs := Bp.zero.vals) Try.results44 (by rfl) (by rfl) (Blk.box h19.head).range Try.underlying94 rfl info94 rfl ⟨b, g, ?_, ?_⟩
        · rw [HG.out, He.out]; rfl
        · rw [HM.out]; exact h19.tail.swap.tail
      | none =>
        have He := Lib.hid (errV_none he g)
        have hG : bpGot s g = .tuple #[.agg x.vals.toArray, .nilIface] := by
          unfold bpGot; rw [HM.out, if_pos he]
        have HG := Lib.hid hG
        clear he hG
        go_wp2_with (first
          | ((with_reducible refine (err_st H17.out).mono ?_)
             rintro e w18 ⟨rfl, rfl⟩
             rw [He.out])
          | (with_reducible refine wpList_load_rng (ty := 94) x.vals (by with_unfolding_all rfl) R17'.out Try.underlying94 (by with_unfolding_all rfl) (by with_unfolding_all exact info94) ?_)
          | (with_reducible refine wpList_store_blk (ty := 94) (o := 0) _ x.vals (by with_unfolding_all rfl) (by with_unfolding_all rfl) B17.out (by with_unfolding_all exact Nat.le_refl _) (by with_unfolding_all exact info94) (Bp.one _) (fun W19 hBW19 hoW19 => ?_)))
        have h19 := (H17.out.pull 2 rfl).sets (L' := x.vals) hBW19 hoW19
        refine ret_cell2 (cs := x.vals) Try.results44 (by rfl) (by rfl) (Blk.box h19.head).range Try.underlying94 rfl info94 rfl ⟨b, g, ?_, ?_⟩
        · rw [HG.out]; rfl
        · rw [HM.out]; exact h19.tail.swap.tail
end Go.Proofs.Ytidcjbanhdpkkaa

/- bpdu.ReadBody. -/
import Derived.Test.YtidcjbanhdpkkaaBpF
import Derived.Test.YtidcjbanhdpkkaaBp3
import Derived.Test.YtidcjbanhdpkkaaBp2
namespace Go.Proofs.Ytidcjbanhdpkkaa
open Go.RowKit
def bodyOf (kind : Int) (f : Fl) (r : Br) (c : Int) (s : Br) (p : Pt) : Bp := ⟨kind, f, r, c, s, p, 0, 0, 0, 0⟩
theorem kind_built (kind : Int) : Try.prog.built 94 [(0, .int .i64 kind)] = some (bodyOf kind Fl.zero Br.zero 0 Br.zero Pt.zero).vals.toArray := by kernel_rfl
@[reducible] def zBp : List Value := [.int .i64 0, .bool false, .bool false, .int .i64 0, .bool false, .bool false, .bool false, .bool false, .int .i64 0, .int .i64 0, .int .u8 0, .int .u8 0, .int .u8 0, .int .u8 0, .int .u8 0, .int .u8 0, .int .i64 0, .int .i64 0, .int .i64 0, .int .u8 0, .int .u8 0, .int .u8 0, .int .u8 0, .int .u8 0, .int .u8 0, .int .i64 0, .int .i64 0, .int .i64 0, .int .i64 0, .int .i64 0, .int .i64 0]
section
variable {B : Nat} {w0 w : World} {A : List It} {b g : Nat} {R : RS}
theorem readBr_e (H : St B w0 w (rd b R g :: A)) :
    Calls Try.prog 72 #[.pointer (some ⟨b, 0, none⟩)] w fun e w' => ∃ x R', readBrM R = (x, R') ∧ e = .returned (.agg x.vals.toArray) ∧ RdTo B w0 b R' A w' :=
  (readBr_st H).mono fun _ _ h => ⟨_, _, rfl, h.1, h.2⟩
theorem readPt_e (H : St B w0 w (rd b R g :: A)) :
    Calls Try.prog 73 #[.pointer (some ⟨b, 0, none⟩)] w fun e w' => ∃ x R', readPtM R = (x, R') ∧ e = .returned (.agg x.vals.toArray) ∧ RdTo B w0 b R' A w' :=
  (readPt_st H).mono fun _ _ h => ⟨_, _, rfl, h.1, h.2⟩
set_option maxRecDepth 100000 in
set_option maxHeartbeats 4000000 in
theorem readBody_st (H : St B w0 w (rd b R g :: A)) (kind : Int) :
    Calls Try.prog 59 #[.pointer (some ⟨b, 0, none⟩), .int .i64 kind] w fun e w' => e = .returned (.agg (readBodyM R kind).1.vals.toArray) ∧ RdTo B w0 b (readBodyM R kind).2 A w' := by
  have H1 := Lib.hid (H.alloc zBp 94).swap
  clear H
  have PB := Lib.hid (kind_built kind)
  go_enter Try.func59, Try.ntmps59
  go_upto_region 1 with (fail)
  unfold zBp at H1
  generalize World.alloc _ _ = w1 at *
  have H1 : Hid (St B w0 w1 (rd b R g :: bk w.heap.size 94 Bp.zero.vals :: A)) := H1
  go_upto_region 2 with (first
    | (with_reducible refine wpList_buildA (t := 94) [(0, .int .i64 kind)] (bodyOf kind Fl.zero Br.zero 0 Br.zero Pt.zero).vals (by with_unfolding_all rfl) PB.out ?_)
    | (with_reducible refine wpList_store_blk (ty := 94) (o := 0) _ (bodyOf kind Fl.zero Br.zero 0 Br.zero Pt.zero).vals (by with_unfolding_all rfl) (by with_unfolding_all rfl) (Blk.new w1 zBp 94) (by with_unfolding_all exact Nat.le_refl _) (by with_unfolding_all exact info94) (Bp.one _) (fun W2 hBW2 hoW2 => ?_)))
  have H2 : Hid (St B w0 W2 (rd b R g :: bk w1.heap.size 94 (bodyOf kind Fl.zero Br.zero 0 Br.zero Pt.zero).vals :: bk w.heap.size 94 Bp.zero.vals :: A)) := Lib.hid ((H1.out.alloc zBp 94).sets (L' := (bodyOf kind Fl.zero Br.zero 0 Br.zero Pt.zero).vals) hBW2 hoW2).swap
  clear hBW2 hoW2 H1
  generalize w1.heap.size = P at *
  go_wp2_with fail
  refine (num_e H2.out 1 (by decide) (by decide)).mono ?_
  rintro e w3 ⟨n3, R3, e3, l3, rfl, g3, h3⟩
  have E3 := Lib.hid e3
  have H3 := Lib.hid h3
  clear e3 h3 H2
  go_upto_region 3 with (first
    | ((with_reducible refine (of_any n3 (by omega) _).mono ?_)
       rintro e w4 ⟨rfl, hb4⟩
       have H4 := Lib.hid (H3.out.ext hb4)
       clear hb4)
    | (with_reducible refine wpList_store_blk (ty := 46) (o := 1) _ (Fl.of n3).vals (by with_unfolding_all rfl) (by with_unfolding_all rfl) (H4.out.at 1 rfl) (by with_unfolding_all exact Nat.le_of_ble_eq_true rfl) (by with_unfolding_all exact info46) (Fl.one _) (fun W5 hBW5 hoW5 => ?_)))
  have H5 : Hid (St B w0 W5 (rd b R3 g3 :: bk P 94 (bodyOf kind (Fl.of n3) Br.zero 0 Br.zero Pt.zero).vals :: bk w.heap.size 94 Bp.zero.vals :: A)) := Lib.hid ((H4.out.pull 1 rfl).sets (L' := (bodyOf kind (Fl.of n3) Br.zero 0 Br.zero Pt.zero).vals) hBW5 hoW5).swap
  clear hBW5 hoW5 H4 H3
  go_wp2_with fail
  refine (readBr_e H5.out).mono ?_
  rintro e w6 ⟨x6, R6, e6, rfl, g6, h6⟩
  have E6 := Lib.hid e6
  have H6 := Lib.hid h6
  clear e6 h6 H5
  go_upto_region 4 with (first
    | (with_reducible refine wpList_store_blk (ty := 92) (o := 8) _ x6.vals (by with_unfolding_all rfl) (by with_unfolding_all rfl) (H6.out.at 1 rfl) (by with_unfolding_all exact Nat.le_of_ble_eq_true rfl) (by with_unfolding_all exact info92) (Br.one _) (fun W7 hBW7 hoW7 => ?_)))
  have H7 : Hid (St B w0 W7 (rd b R6 g6 :: bk P 94 (bodyOf kind (Fl.of n3) x6 0 Br.zero Pt.zero).vals :: bk w.heap.size 94 Bp.zero.vals :: A)) := Lib.hid ((H6.out.pull 1 rfl).sets (L' := (bodyOf kind (Fl.of n3) x6 0 Br.zero Pt.zero).vals) hBW7 hoW7).swap
  clear hBW7 hoW7 H6
  go_wp2_with fail
  refine (num_e H7.out 4 (by decide) (by decide)).mono ?_
  rintro e w8 ⟨n8, R8, e8, l8, rfl, g8, h8⟩
  have E8 := Lib.hid e8
  have H8 := Lib.hid h8
  clear e8 h8 H7
  have c8 : w8.cell? ⟨P, 16, none⟩ = some (.int .i64 0) := (H8.out.pull 1 rfl).cell 16
  have z8 := (H8.out.pull 1 rfl).frozen 16
  go_upto_region 5 with (fail)
  have H9 : Hid (St B w0 _ (rd b R8 g8 :: bk P 94 (bodyOf kind (Fl.of n3) x6 n8 Br.zero Pt.zero).vals :: bk w.heap.size 94 Bp.zero.vals :: A)) := Lib.hid ((H8.out.pull 1 rfl).set 16 (.int .i64 (n8 : Int)) (by rw [Bp.len]; decide)).swap
  clear c8 z8 H8
  generalize World.setCell _ _ _ = w9 at *
  go_wp2_with fail
  refine (readBr_e H9.out).mono ?_
  rintro e w10 ⟨x10, R10, e10, rfl, g10, h10⟩
  have E10 := Lib.hid e10
  have H10 := Lib.hid h10
  clear e10 h10 H9
  go_upto_region 6 with (first
    | (with_reducible refine wpList_store_blk (ty := 92) (o := 17) _ x10.vals (by with_unfolding_all rfl) (by with_unfolding_all rfl) (H10.out.at 1 rfl) (by with_unfolding_all exact Nat.le_of_ble_eq_true rfl) (by with_unfolding_all exact info92) (Br.one _) (fun W11 hBW11 hoW11 => ?_)))
  have H11 : Hid (St B w0 W11 (rd b R10 g10 :: bk P 94 (bodyOf kind (Fl.of n3) x6 n8 x10 Pt.zero).vals :: bk w.heap.size 94 Bp.zero.vals :: A)) := Lib.hid ((H10.out.pull 1 rfl).sets (L' := (bodyOf kind (Fl.of n3) x6 n8 x10 Pt.zero).vals) hBW11 hoW11).swap
  clear hBW11 hoW11 H10
  go_wp2_with fail
  refine (readPt_e H11.out).mono ?_
  rintro e w12 ⟨x12, R12, e12, rfl, g12, h12⟩
  have E12 := Lib.hid e12
  have H12 := Lib.hid h12
  clear e12 h12 H11
  go_upto_region 7 with (first
    | (with_reducible refine wpList_store_blk (ty := 90) (o := 25) _ x12.vals (by with_unfolding_all rfl) (by with_unfolding_all rfl) (H12.out.at 1 rfl) (by with_unfolding_all exact Nat.le_of_ble_eq_true rfl) (by with_unfolding_all exact info90) (Pt.one _) (fun W13 hBW13 hoW13 => ?_)))
  have H13 : Hid (St B w0 W13 (rd b R12 g12 :: bk P 94 (bodyOf kind (Fl.of n3) x6 n8 x10 x12).vals :: bk w.heap.size 94 Bp.zero.vals :: A)) := Lib.hid ((H12.out.pull 1 rfl).sets (L' := (bodyOf kind (Fl.of n3) x6 n8 x10 x12).vals) hBW13 hoW13).swap
  clear hBW13 hoW13 H12
  go_wp2_with fail
  refine (num_e H13.out 2 (by decide) (by decide)).mono ?_
  rintro e w14 ⟨n14, R14, e14, l14, rfl, g14, h14⟩
  have E14 := Lib.hid e14
  have H14 := Lib.hid h14
  clear e14 h14 H13
  go_wp2_with fail
  refine (num_e H14.out 2 (by decide) (by decide)).mono ?_
  rintro e w15 ⟨n15, R15, e15, l15, rfl, g15, h15⟩
  have E15 := Lib.hid e15
  have H15 := Lib.hid h15
  clear e15 h15 H14
  go_wp2_with fail
  refine (num_e H15.out 2 (by decide) (by decide)).mono ?_
  rintro e w16 ⟨n16, R16, e16, l16, rfl, g16, h16⟩
  have E16 := Lib.hid e16
  have H16 := Lib.hid h16
  clear e16 h16 H15
  go_wp2_with fail
  refine (num_e H16.out 2 (by decide) (by decide)).mono ?_
  rintro e w17 ⟨n17, R17, e17, l17, rfl, g17, h17⟩
  have E17 := Lib.hid e17
  have H17 := Lib.hid h17
  clear e17 h17 H16
  have c27 : w17.cell? ⟨P, 27, none⟩ = some (.int .i64 0) := (H17.out.pull 1 rfl).cell 27
  have z27 := (H17.out.pull 1 rfl).frozen 27
  have c28 : w17.cell? ⟨P, 28, none⟩ = some (.int .i64 0) := (H17.out.pull 1 rfl).cell 28
  have z28 := (H17.out.pull 1 rfl).frozen 28
  have c29 : w17.cell? ⟨P, 29, none⟩ = some (.int .i64 0) := (H17.out.pull 1 rfl).cell 29
  have z29 := (H17.out.pull 1 rfl).frozen 29
  have c30 : w17.cell? ⟨P, 30, none⟩ = some (.int .i64 0) := (H17.out.pull 1 rfl).cell 30
  have z30 := (H17.out.pull 1 rfl).frozen 30
  go_upto_region 8 with (fail)
  have h18 := (((((H17.out.pull 1 rfl).set 27 (.int .i64 (n14 : Int)) (by rw [Bp.len]; decide)).set 28 (.int .i64 (n15 : Int)) (by simp [Bp.len])).set 29 (.int .i64 (n16 : Int)) (by simp [Bp.len])).set 30 (.int .i64 (n17 : Int)) (by simp [Bp.len])).swap
  obtain ⟨X, hX⟩ : ∃ X : Bp, X = ⟨kind, Fl.of n3, x6, n8, x10, x12, n14, n15, n16, n17⟩ := ⟨_, rfl⟩
  have H18 : Hid (St B w0 _ (rd b R17 g17 :: bk P 94 X.vals :: bk w.heap.size 94 Bp.zero.vals :: A)) := Lib.hid (by rw [hX]; exact h18)
  have HX := Lib.hid hX
  clear h18 c27 z27 c28 z28 c29 z29 c30 z30 H17 hX
  generalize World.setCell _ _ _ = w18 at *
  have R18' := Lib.hid (Blk.box (H18.out.at 1 rfl)).range
  have B18' := Lib.hid (H18.out.at 2 rfl)
  go_wp2_with (first
    | (with_reducible refine wpList_load_rng (ty := 94) X.vals (by with_unfolding_all rfl) R18'.out Try.underlying94 (by with_unfolding_all rfl) (by with_unfolding_all exact info94) ?_)
    | (with_reducible refine wpList_store_blk (ty := 94) (o := 0) _ X.vals (by with_unfolding_all rfl) (by with_unfolding_all rfl) B18'.out (by with_unfolding_all exact Nat.le_refl _) (by with_unfolding_all exact info94) (Bp.one _) (fun W19 hBW19 hoW19 => ?_)))
  have hE : readBodyM R kind = (X, R17) := by
    rw [HX.out]
    unfold readBodyM
    simp only [E3.out, E6.out, E8.out, E10.out, E12.out, E14.out, E15.out, E16.out, E17.out]
  rw [hE]
  have h19 := (H18.out.pull 2 rfl).sets (L' := X.vals) hBW19 hoW19
  refine ret_cell (cs := X.vals) Try.results59 (by rfl) (Blk.box h19.head).range Try.underlying94 rfl info94 rfl ⟨rfl, g17, (h19.tail.swap).tail⟩
end
end Go.Proofs.Ytidcjbanhdpkkaa

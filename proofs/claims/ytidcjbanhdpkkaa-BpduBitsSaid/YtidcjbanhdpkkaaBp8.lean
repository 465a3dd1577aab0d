/- The fact of a BPDU. -/
import Derived.Test.YtidcjbanhdpkkaaBp7
import Derived.Test.YtidcjbanhdpkkaaPick
namespace Go.Proofs.Ytidcjbanhdpkkaa
open Go.RowKit
theorem bpRead_ok (b : Bp) (more : List UInt8) (hb : b.okB = true) (hm : more.length ≤ 1000000) (w : World) :
    Calls Try.prog 44 #[.string ⟨(b.bytes ++ more).toArray⟩] w fun e w' => e = .returned (.tuple #[.agg b.vals.toArray, .nilIface]) ∧ Below w.heap.size w w' := by
  have hl : b.bytes.length ≤ 36 := by
    unfold Bp.bytes
    split
    · rw [headB_len]; omega
    · split <;> simp only [List.length_append, headB_len, Bp.body_len, List.length_cons, List.length_nil] <;> omega
  have hl2 : (b.bytes ++ more).length ≤ 4611686018427387904 := by rw [List.length_append]; omega
  refine (bpRead_any _ hl2 w).mono ?_
  rintro e w1 ⟨g1, g, rfl, hS⟩
  obtain ⟨R, hR, he⟩ := readBp_bytes b more hb hl2
  exact ⟨by unfold bpGot; rw [hR, if_pos he], hS.below⟩
theorem bpRead_yes (s : List UInt8) (hs : s.length ≤ 4611686018427387904) (h : (readBpM s).2.err = none) (w : World) :
    Calls Try.prog 44 #[.string ⟨s.toArray⟩] w fun e w' => e = .returned (.tuple #[.agg (readBpM s).1.vals.toArray, .nilIface]) ∧ Below w.heap.size w w' := by
  refine (bpRead_any s hs w).mono ?_
  rintro e w1 ⟨b, g, rfl, hS⟩
  exact ⟨by unfold bpGot; rw [if_pos h], hS.below⟩
def fl0 : Fl := ⟨false, false, 2, false, true, false, false⟩
def bp0 : Bp := ⟨3, fl0, Br.zero, 0, Br.zero, ⟨128, 1⟩, 0, 5120, 0, 0⟩
theorem fl0_built : Try.prog.built 46 [(2, .int .i64 2), (4, .bool true)] = some fl0.vals.toArray := by kernel_rfl
theorem pt0_built : Try.prog.built 90 [(0, .int .i64 128), (1, .int .i64 1)] = some (Pt.vals ⟨128, 1⟩).toArray := by kernel_rfl
theorem bp0_built : Try.prog.built 94 [(0, .int .i64 3), (1, .agg fl0.vals.toArray), (5, .agg (Pt.vals ⟨128, 1⟩).toArray), (7, .int .i64 5120)] = some bp0.vals.toArray := by kernel_rfl
set_option maxRecDepth 100000 in
set_option maxHeartbeats 2000000 in
theorem bridged_any (w : World) : Calls Try.prog 20 #[] w fun e w' => e = .returned (.bool true) ∧ Below w.heap.size w w' := by
  have HW := Lib.hid (bpWrite_ok bp0 (by decide))
  have HR := Lib.hid (bpRead_ok bp0 [109, 111, 114, 101] (by decide) (by decide))
  have HB : Hid (∀ W, Calls Try.prog 23 #[.agg #[.bool false, .bool false, .int .i64 2, .bool false, .bool true, .bool false, .bool false]] W fun e w' => e = .returned (.int .i64 40) ∧ Below W.heap.size W w') := Lib.hid (fun W => byteF_any fl0 (by decide) W)
  have hl : bp0.bytes.length = 36 := by decide
  have EQ := bp_eq bp0 bp0
  rw [decide_eq_true rfl] at EQ
  have GQ := fun p q => bp_guard .eql bp0 bp0 p q
  have c0 : bp0.fl = fl0 := rfl
  have B0 := bp0_built
  go_enter Try.func20, Try.ntmps20
  generalize bp0.bytes = S at *
  go_upto_region 2 with (first
    | (with_reducible refine wpList_buildA (t := 46) [(2, .int .i64 2), (4, .bool true)] fl0.vals (by with_unfolding_all rfl) fl0_built ?_)
    | (with_reducible refine wpList_buildA (t := 90) [(0, .int .i64 128), (1, .int .i64 1)] (Pt.vals ⟨128, 1⟩) (by with_unfolding_all rfl) pt0_built ?_)
    | (with_reducible refine wpList_buildA (t := 94) [(0, .int .i64 3), (1, .agg fl0.vals.toArray), (5, .agg (Pt.vals ⟨128, 1⟩).toArray), (7, .int .i64 5120)] bp0.vals (by with_unfolding_all rfl) B0 ?_)
    | (with_reducible refine wpList_store_blk (ty := 94) (o := 0) _ bp0.vals (by with_unfolding_all rfl) (by with_unfolding_all rfl) (Blk.new w zBp 94) (by with_unfolding_all exact Nat.le_refl _) (by with_unfolding_all exact info94) (Bp.one _) (fun W1 hBW1 hoW1 => ?_)))
  have H1 : Hid (St w.heap.size w W1 [bk w.heap.size 94 bp0.vals]) := Lib.hid (((St.init w).alloc zBp 94).sets (L' := bp0.vals) hBW1 hoW1)
  clear hBW1 hoW1
  go_upto_region 3 with (first
    | (with_reducible refine wpList_load_rng (ty := 94) bp0.vals (by with_unfolding_all rfl) (Blk.box (H1.out.at 0 rfl)).range Try.underlying94 (by with_unfolding_all rfl) (by with_unfolding_all exact info94) ?_)
    | ((with_reducible refine (HW.out _).mono ?_)
       rintro e w2 ⟨rfl, hb2⟩
       have H2 := Lib.hid (H1.out.ext hb2)
       clear hb2))
  have hl4 : S.length ≤ 36 := by omega
  go_upto_region 4 with (first
    | ((with_reducible refine (HR.out _).mono ?_)
       rintro e w3 ⟨rfl, hb3⟩
       have H3 := Lib.hid (H2.out.ext hb3)
       clear hb3)
    | (with_reducible refine wpList_store_blk (ty := 94) (o := 0) _ bp0.vals (by with_unfolding_all rfl) (by with_unfolding_all rfl) (Blk.new w3 zBp 94) (by with_unfolding_all exact Nat.le_refl _) (by with_unfolding_all exact info94) (Bp.one _) (fun W4 hBW4 hoW4 => ?_)))
  have H4 : Hid (St w.heap.size w W4 [bk w3.heap.size 94 bp0.vals, bk w.heap.size 94 bp0.vals]) := Lib.hid ((H3.out.alloc zBp 94).sets (L' := bp0.vals) hBW4 hoW4)
  clear hBW4 hoW4 H1 H2 H3
  generalize w3.heap.size = P3 at *
  have BX := Blk.box (H4.out.at 1 rfl)
  have f1 : W4.cell? ⟨w.heap.size, 1, none⟩ = some (.bool false) := BX.cell 1
  have f2 : W4.cell? ⟨w.heap.size, 2, none⟩ = some (.bool false) := BX.cell 2
  have f3 : W4.cell? ⟨w.heap.size, 3, none⟩ = some (.int .i64 2) := BX.cell 3
  have f4 : W4.cell? ⟨w.heap.size, 4, none⟩ = some (.bool false) := BX.cell 4
  have f5 : W4.cell? ⟨w.heap.size, 5, none⟩ = some (.bool true) := BX.cell 5
  have f6 : W4.cell? ⟨w.heap.size, 6, none⟩ = some (.bool false) := BX.cell 6
  have f7 : W4.cell? ⟨w.heap.size, 7, none⟩ = some (.bool false) := BX.cell 7
  clear BX
  go_wp2_with (first
    | (with_reducible refine wpList_load_rngG (ty := 94) bp0.vals (by with_unfolding_all rfl) (by with_unfolding_all rfl) (Blk.box (H4.out.at 0 rfl)).range Try.underlying94 (by with_unfolding_all rfl) (by with_unfolding_all exact info94) ?_)
    | (with_reducible refine wpList_load_rngG (ty := 94) bp0.vals (by with_unfolding_all rfl) (by with_unfolding_all rfl) (Blk.box (H4.out.at 1 rfl)).range Try.underlying94 (by with_unfolding_all rfl) (by with_unfolding_all exact info94) ?_)
    | ((with_reducible refine (HB.out _).mono ?_)
       rintro e w5 ⟨rfl, hb5⟩
       have H5 := Lib.hid (H4.out.ext hb5)
       clear hb5))
  go_ret
  exact ⟨rfl, H5.out.below⟩
end Go.Proofs.Ytidcjbanhdpkkaa

/- prio.Read, prio.ReadPort. -/
import Derived.Test.YtkicbabfgahmkaaDoorPb1
set_option linter.all false
namespace Go.Proofs.YtkicbabfgahmkaaDoor
open Go.RowKit
def Ad.zero : Ad := ⟨0, 0, 0, 0, 0, 0⟩
def Br.zero : Br := ⟨0, 0, Ad.zero⟩
def Pt.zero : Pt := ⟨0, 0⟩
theorem and_mod (n k : Nat) (hn : n < 65536) (hk : k ≤ 16) : bits .and .i64 (n : Int) ((2 ^ k - 1 : Nat) : Int) = ((n % 2 ^ k : Nat) : Int) := by
  have hlt : 2 ^ k - 1 < 65536 := Nat.lt_of_lt_of_le (Nat.sub_lt (Nat.two_pow_pos k) (by decide)) (Nat.pow_le_pow_right (n := 2) (by decide) hk)
  have h1 : (BitVec.ofInt 64 (n : Int)).toNat = n := by rw [BitVec.ofInt_natCast, BitVec.toNat_ofNat]; exact Nat.mod_eq_of_lt (by omega)
  have h2 : (BitVec.ofInt 64 ((2 ^ k - 1 : Nat) : Int)).toNat = 2 ^ k - 1 := by rw [BitVec.ofInt_natCast, BitVec.toNat_ofNat]; exact Nat.mod_eq_of_lt (by omega)
  show IntKind.i64.wrap ((BitVec.ofInt 64 (n : Int) &&& BitVec.ofInt 64 ((2 ^ k - 1 : Nat) : Int)).toNat : Int) = _
  rw [BitVec.toNat_and, h1, h2, IntKind.wrap_i64, Nat.and_two_pow_sub_one_eq_mod]
  have := Nat.mod_le n (2 ^ k)
  omega
theorem andNot_mod (n k : Nat) (hn : n < 65536) (hk : k ≤ 16) : bits .andNot .i64 (n : Int) ((2 ^ k - 1 : Nat) : Int) = ((n / 2 ^ k * 2 ^ k : Nat) : Int) := by
  have hlt : 2 ^ k - 1 < 65536 := Nat.lt_of_lt_of_le (Nat.sub_lt (Nat.two_pow_pos k) (by decide)) (Nat.pow_le_pow_right (n := 2) (by decide) hk)
  have h1 : (BitVec.ofInt 64 (n : Int)) = BitVec.ofNat 64 n := BitVec.ofInt_natCast ..
  have h2 : (BitVec.ofInt 64 ((2 ^ k - 1 : Nat) : Int)) = BitVec.ofNat 64 (2 ^ k - 1) := BitVec.ofInt_natCast ..
  have e : (BitVec.ofNat 64 n &&& ~~~ BitVec.ofNat 64 (2 ^ k - 1)).toNat = n / 2 ^ k * 2 ^ k := by
    apply Nat.eq_of_testBit_eq
    intro i
    rw [BitVec.testBit_toNat, BitVec.getLsbD_and, BitVec.getLsbD_not, BitVec.getLsbD_ofNat, BitVec.getLsbD_ofNat, Nat.testBit_two_pow_sub_one, Nat.mul_comm, Nat.testBit_two_pow_mul, Nat.testBit_div_two_pow]
    by_cases hi : i < 64
    · by_cases hki : i < k
      · simp [hki]; omega
      · have : k ≤ i := by omega
        simp [hi, hki, this]
    · have hb : n.testBit i = false := Nat.testBit_lt_two_pow (Nat.lt_of_lt_of_le hn (Nat.pow_le_pow_right (n := 2) (by decide) (show 16 ≤ i by omega)))
      by_cases hki : k ≤ i
      · simp [hi, hb, hki]
      · omega
  show IntKind.i64.wrap ((BitVec.ofInt 64 (n : Int) &&& ~~~ BitVec.ofInt 64 ((2 ^ k - 1 : Nat) : Int)).toNat : Int) = _
  rw [h1, h2, e, IntKind.wrap_i64]
  have := Nat.div_mul_le_self n (2 ^ k)
  omega
theorem br_built (p x : Nat) : Tryd.prog.built 53 [(0, .int .i64 (p : Int)), (1, .int .i64 (x : Int))] = some (Br.vals ⟨(p : Int), (x : Int), Ad.of []⟩).toArray := by kernel_rfl
theorem pt_built (p x : Nat) : Tryd.prog.built 55 [(0, .int .i64 (p : Int)), (1, .int .i64 (x : Int))] = some (Pt.vals ⟨(p : Int), (x : Int)⟩).toArray := by kernel_rfl
@[reducible] def zBr : List Value := [.int .i64 0, .int .i64 0, .int .u8 0, .int .u8 0, .int .u8 0, .int .u8 0, .int .u8 0, .int .u8 0]
@[reducible] def zPt : List Value := [.int .i64 0, .int .i64 0]
section
variable {B : Nat} {w0 w : World} {A : List It} {b g : Nat} {R : RS}
set_option maxRecDepth 100000 in
set_option maxHeartbeats 2000000 in
theorem readBr_st (H : St B w0 w (rd b R g :: A)) :
    Calls Tryd.prog 37 #[.pointer (some ⟨b, 0, none⟩)] w fun e w' => e = .returned (.agg (readBrM R).1.vals.toArray) ∧ RdTo B w0 b (readBrM R).2 A w' := by
  have H1 := Lib.hid (H.alloc zBr 53).swap
  clear H
  go_enter Tryd.func37, Tryd.ntmps37
  go_upto_region 1 with (fail)
  unfold zBr at H1
  generalize World.alloc _ _ = w1 at *
  have H1 : Hid (St B w0 w1 (rd b R g :: bk w.heap.size 53 Br.zero.vals :: A)) := H1
  go_wp2_with fail
  refine (num_e H1.out 2 (by decide) (by decide)).mono ?_
  rintro e w2 ⟨n2, R2, e2, l2, rfl, g2, h2⟩
  have E2 := Lib.hid e2
  have H2 := Lib.hid h2
  clear e2 h2 H1
  have hA : bits .andNot .i64 (n2 : Int) 4095 = ((n2 / 4096 * 4096 : Nat) : Int) := andNot_mod n2 12 (by omega) (by decide)
  have hB : bits .and .i64 (n2 : Int) 4095 = ((n2 % 4096 : Nat) : Int) := and_mod n2 12 (by omega) (by decide)
  generalize hp : n2 / 4096 * 4096 = p at *
  generalize hx : n2 % 4096 = x at *
  have Hp := Lib.hid hp
  have Hx := Lib.hid hx
  clear hp hx
  have PB := Lib.hid (br_built p x)
  go_upto_region 3 with (first
    | (with_reducible refine wpList_buildA (t := 53) [(0, .int .i64 (p : Int)), (1, .int .i64 (x : Int))] (Br.vals ⟨(p : Int), (x : Int), Ad.of []⟩) (by with_unfolding_all rfl) PB.out ?_)
    | (with_reducible refine wpList_store_blk (ty := 53) (o := 0) _ (Br.vals ⟨(p : Int), (x : Int), Ad.of []⟩) (by with_unfolding_all rfl) (by with_unfolding_all rfl) (Blk.new w2 zBr 53) (by with_unfolding_all exact Nat.le_refl _) (by with_unfolding_all exact info53) (Br.one _) (fun W3 hBW3 hoW3 => ?_)))
  have H3 : Hid (St B w0 W3 (rd b R2 g2 :: bk w2.heap.size 53 (Br.vals ⟨(p : Int), (x : Int), Ad.of []⟩) :: bk w.heap.size 53 Br.zero.vals :: A)) := Lib.hid ((H2.out.alloc zBr 53).sets (L' := Br.vals ⟨(p : Int), (x : Int), Ad.of []⟩) hBW3 hoW3).swap
  clear hBW3 hoW3 H2
  generalize w2.heap.size = P at *
  refine wp_region_last (fun _ => True) 4 (by kernel_rfl) trivial (fun hHeld => ?_)
  refine wpAnyG_take 0 (oi := ?o4) ?v4 ?hi4 (by kernel_rfl) (by kernel_rfl) (by decide) (by kernel_rfl) (by kernel_rfl) ?hq4 ?hg4 ?hy4 (by assumption) ?hk4
  case hi4 => (simp only [List.getElem?_toArray, List.getElem?_cons_succ, List.getElem?_cons_zero]; rfl)
  case hq4 => exact fun _ _ _ h => h
  case hg4 => rfl
  case hy4 => (intro X hX; go_simp; try with_reducible rfl)
  try simp only [Act.put, List.setIfInBounds_toArray, List.set_cons_zero, List.set_cons_succ]
  refine wpAnyG_take 1 (oi := ?o5) ?v5 ?hi5 (by kernel_rfl) (by kernel_rfl) (by decide) (by kernel_rfl) (by kernel_rfl) ?hq5 ?hg5 ?hy5 (by assumption) ?hk5
  case hi5 => (simp only [List.getElem?_toArray, List.getElem?_cons_succ, List.getElem?_cons_zero]; rfl)
  case hq5 => exact fun _ _ _ h => h
  case hg5 => rfl
  case hy5 => (intro X hX; go_simp; try with_reducible rfl)
  try simp only [Act.put, List.setIfInBounds_toArray, List.set_cons_zero, List.set_cons_succ]
  refine wpAnyG_take 2 (oi := ?o6) ?v6 ?hi6 (by kernel_rfl) (by kernel_rfl) (by decide) (by kernel_rfl) (by kernel_rfl) ?hq6 ?hg6 ?hy6 (by assumption) ?hk6
  case hi6 => (simp only [List.getElem?_toArray, List.getElem?_cons_succ, List.getElem?_cons_zero]; rfl)
  case hq6 => exact fun _ _ _ h => h
  case hg6 => rfl
  case hy6 => (intro X hX; go_simp; try with_reducible rfl)
  try simp only [Act.put, List.setIfInBounds_toArray, List.set_cons_zero, List.set_cons_succ]
  refine wpAnyG_one 3 (o := ?o7) (by kernel_rfl) ?hi7 ?hg7 ?hk7
  case hi7 => (simp only [List.getElem?_toArray, List.getElem?_cons_succ, List.getElem?_cons_zero]; rfl)
  case hg7 => rfl
  intro K hK
  go_simp
  refine (bytes_e H3.out.drew 6 (by decide)).mono ?_
  rintro e w7 ⟨n7, R7, e7, l7, rfl, g7, h7⟩
  have E7 := Lib.hid e7
  have H7 := Lib.hid h7
  refine hK.out _ _ (fun _ => trivial) (fun _ => ?_)
  clear e7 h7 H3 hK K
  try simp only [Act.put, List.setIfInBounds_toArray, List.set_cons_zero, List.set_cons_succ]
  refine wpAnyG_one 4 (o := ?o8) (by kernel_rfl) ?hi8 ?hg8 ?hk8
  case hi8 => (simp only [List.getElem?_toArray, List.getElem?_cons_succ, List.getElem?_cons_zero]; rfl)
  case hg8 => rfl
  intro K hK
  have h7' : St B w0 w7 (bk P 53 ([.int .i64 (p : Int), .int .i64 (x : Int)] ++ (zero6 ++ [])) :: rd b R7 g7 :: bk w.heap.size 53 Br.zero.vals :: A) := H7.out.pull 1 rfl
  refine Lib.wp_copy_run _ (.tmp 13) (.tmp 15) 83 9 rfl _ _ rfl rfl (copyAd_run [.int .i64 (p : Int), .int .i64 (x : Int)] [] 2 6 n7 h7' rfl l7 _) ?_
  refine hK.out _ _ (fun h => absurd rfl h) (fun _ => ?_)
  refine wpAnyG_done (by kernel_rfl) ?_ _
  have H8 : Hid (St B w0 _ (rd b R7 g7 :: bk P 53 (Br.vals ⟨(p : Int), (x : Int), Ad.of n7⟩) :: bk w.heap.size 53 Br.zero.vals :: A)) := Lib.hid (St.copyAd [.int .i64 (p : Int), .int .i64 (x : Int)] [] 2 n7 h7' rfl l7).swap
  clear h7' hK K H7
  generalize World.setRow _ _ _ = w8 at *
  have R8' := Lib.hid (Blk.box (H8.out.at 1 rfl)).range
  have B8' := Lib.hid (H8.out.at 2 rfl)
  go_wp2_with (first
    | (with_reducible refine wpList_load_rng (ty := 53) (Br.vals ⟨(p : Int), (x : Int), Ad.of n7⟩) (by with_unfolding_all rfl) R8'.out Tryd.underlying53 (by with_unfolding_all rfl) (by with_unfolding_all exact info53) ?_)
    | (with_reducible refine wpList_store_blk (ty := 53) (o := 0) _ (Br.vals ⟨(p : Int), (x : Int), Ad.of n7⟩) (by with_unfolding_all rfl) (by with_unfolding_all rfl) B8'.out (by with_unfolding_all exact Nat.le_refl _) (by with_unfolding_all exact info53) (Br.one _) (fun W9 hBW9 hoW9 => ?_)))
  have hE : readBrM R = (⟨(p : Int), (x : Int), Ad.of n7⟩, R7) := by
    unfold readBrM
    simp only [E2.out, E7.out, Hp.out, Hx.out]
  rw [hE]
  have h9 := (H8.out.pull 2 rfl).sets (L' := Br.vals ⟨(p : Int), (x : Int), Ad.of n7⟩) hBW9 hoW9
  refine ret_cell (cs := Br.vals ⟨(p : Int), (x : Int), Ad.of n7⟩) Tryd.results37 (by rfl) (Blk.box h9.head).range Tryd.underlying53 rfl info53 rfl ⟨rfl, g7, (h9.tail.swap).tail⟩
set_option maxRecDepth 100000 in
set_option maxHeartbeats 2000000 in
theorem readPt_st (H : St B w0 w (rd b R g :: A)) :
    Calls Tryd.prog 38 #[.pointer (some ⟨b, 0, none⟩)] w fun e w' => e = .returned (.agg (readPtM R).1.vals.toArray) ∧ RdTo B w0 b (readPtM R).2 A w' := by
  have H1 := Lib.hid (H.alloc zPt 55).swap
  clear H
  go_enter Tryd.func38, Tryd.ntmps38
  go_upto_region 1 with (fail)
  unfold zPt at H1
  generalize World.alloc _ _ = w1 at *
  have H1 : Hid (St B w0 w1 (rd b R g :: bk w.heap.size 55 Pt.zero.vals :: A)) := H1
  go_wp2_with fail
  refine (at_st H1.out).mono ?_
  rintro e w2 ⟨rfl, h2⟩
  have H2 := Lib.hid h2
  clear h2 H1
  go_wp2_with fail
  refine (num_e H2.out 2 (by decide) (by decide)).mono ?_
  rintro e w3 ⟨n3, R3, e3, l3, rfl, g3, h3⟩
  have E3 := Lib.hid e3
  have H3 := Lib.hid h3
  clear e3 h3 H2
  have hA : bits .andNot .i64 ((n3 : Int) / 256) 15 = ((n3 / 4096 * 16 : Nat) : Int) := by
    have := andNot_mod (n3 / 256) 4 (by omega) (by decide)
    rw [show n3 / 256 / 2 ^ 4 * 2 ^ 4 = n3 / 4096 * 16 by omega] at this
    simpa using this
  have hB : bits .and .i64 (n3 : Int) 4095 = ((n3 % 4096 : Nat) : Int) := and_mod n3 12 (by omega) (by decide)
  generalize hp : n3 / 4096 * 16 = p at *
  generalize hx : n3 % 4096 = x at *
  have Hp := Lib.hid hp
  have Hx := Lib.hid hx
  clear hp hx
  have PB := Lib.hid (pt_built p x)
  go_upto_region 4 with (first
    | (with_reducible refine wpList_buildA (t := 55) [(0, .int .i64 (p : Int)), (1, .int .i64 (x : Int))] (Pt.vals ⟨(p : Int), (x : Int)⟩) (by with_unfolding_all rfl) PB.out ?_)
    | (with_reducible refine wpList_store_blk (ty := 55) (o := 0) _ (Pt.vals ⟨(p : Int), (x : Int)⟩) (by with_unfolding_all rfl) (by with_unfolding_all rfl) (Blk.new w3 zPt 55) (by with_unfolding_all exact Nat.le_refl _) (by with_unfolding_all exact info55) (Pt.one _) (fun W4 hBW4 hoW4 => ?_)))
  have H4 : Hid (St B w0 W4 (rd b R3 g3 :: bk w3.heap.size 55 (Pt.vals ⟨(p : Int), (x : Int)⟩) :: bk w.heap.size 55 Pt.zero.vals :: A)) := Lib.hid ((H3.out.alloc zPt 55).sets (L' := Pt.vals ⟨(p : Int), (x : Int)⟩) hBW4 hoW4).swap
  clear hBW4 hoW4 H3 hA hB
  generalize w3.heap.size = P at *
  have c1 : W4.cell? ⟨P, 1, none⟩ = some (.int .i64 (x : Int)) := (H4.out.pull 1 rfl).cell 1
  obtain ⟨cond, hcd⟩ : ∃ c, decide (R3.err = none ∧ x = 0) = c := ⟨_, rfl⟩
  have Hcd := Lib.hid hcd
  clear hcd
  go_cut [23] (fun c wx => c = .bool cond ∧ wx = W4)
  case first =>
    cases he : R3.err with
    | some y =>
      obtain rfl : cond = false := by rw [← Hcd.out, he]; simp
      have He := Lib.hid (errV_some he g3)
      clear he
      go_wp2_with (first
        | ((with_reducible refine (err_st H4.out).mono ?_)
           rintro e w6 ⟨rfl, rfl⟩
           rw [He.out]))
      go_meet
      exact ⟨rfl, rfl⟩
    | none =>
      have He := Lib.hid (errV_none he g3)
      by_cases h0 : x = 0
      · obtain rfl : cond = true := by rw [← Hcd.out, he]; simp [h0]
        have hb0 : ((x : Int) == 0) = true := by rw [h0]; rfl
        clear he h0
        go_wp2_with (first
          | ((with_reducible refine (err_st H4.out).mono ?_)
             rintro e w6 ⟨rfl, rfl⟩
             rw [He.out]))
        go_meet
        exact ⟨rfl, rfl⟩
      · obtain rfl : cond = false := by rw [← Hcd.out, he]; simp [h0]
        have hb0 : ((x : Int) == 0) = false := by rw [beq_eq_false_iff_ne]; omega
        clear he h0
        go_wp2_with (first
          | ((with_reducible refine (err_st H4.out).mono ?_)
             rintro e w6 ⟨rfl, rfl⟩
             rw [He.out]))
        go_meet
        exact ⟨rfl, rfl⟩
  case rest =>
  obtain ⟨rfl, rfl⟩ := hcut
  go_upto_if 23 with (fail)
  go_cut [] (fun wx => RdTo B w0 b (if cond = true then failM R3 2 (R.place : Int) else R3) (bk P 55 (Pt.vals ⟨(p : Int), (x : Int)⟩) :: bk w.heap.size 55 Pt.zero.vals :: A) wx)
  case first =>
    cases cond
    · go_wp2_with fail
      go_meet
      exact ⟨g3, H4.out⟩
    · go_wp2_with (first
        | ((with_reducible refine (fail_st H4.out 2 _).mono ?_)
           rintro e w6 ⟨rfl, h6⟩
           have H6 := Lib.hid h6
           clear h6))
      go_meet
      exact H6.out
  case rest =>
  have hE : readPtM R = (⟨(p : Int), (x : Int)⟩, if cond = true then failM R3 2 (R.place : Int) else R3) := by
    unfold readPtM
    simp only [E3.out, Hp.out, Hx.out, ← Hcd.out, decide_eq_true_eq]
  generalize (if cond = true then failM R3 2 (R.place : Int) else R3) = R5 at *
  have HE := Lib.hid hE
  obtain ⟨g5, h5⟩ := hcut
  have H5 := Lib.hid h5
  clear h5 hE H4 c1
  generalize wc = w5 at *
  have R5' := Lib.hid (Blk.box (H5.out.at 1 rfl)).range
  have B5' := Lib.hid (H5.out.at 2 rfl)
  go_wp2_with (first
    | (with_reducible refine wpList_load_rng (ty := 55) (Pt.vals ⟨(p : Int), (x : Int)⟩) (by with_unfolding_all rfl) R5'.out Tryd.underlying55 (by with_unfolding_all rfl) (by with_unfolding_all exact info55) ?_)
    | (with_reducible refine wpList_store_blk (ty := 55) (o := 0) _ (Pt.vals ⟨(p : Int), (x : Int)⟩) (by with_unfolding_all rfl) (by with_unfolding_all rfl) B5'.out (by with_unfolding_all exact Nat.le_refl _) (by with_unfolding_all exact info55) (Pt.one _) (fun W9 hBW9 hoW9 => ?_)))
  rw [HE.out]
  have h9 := (H5.out.pull 2 rfl).sets (L' := Pt.vals ⟨(p : Int), (x : Int)⟩) hBW9 hoW9
  refine ret_cell (cs := Pt.vals ⟨(p : Int), (x : Int)⟩) Tryd.results38 (by rfl) (Blk.box h9.head).range Tryd.underlying55 rfl info55 rfl ⟨rfl, g5, (h9.tail.swap).tail⟩
end
end Go.Proofs.YtkicbabfgahmkaaDoor

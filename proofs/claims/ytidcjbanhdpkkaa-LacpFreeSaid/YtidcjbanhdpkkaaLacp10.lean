/- LacpSides. -/
import Derived.Test.YtidcjbanhdpkkaaLacp9
namespace Go.Proofs.Ytidcjbanhdpkkaa
open Go.RowKit
/-- A side behind its two first bytes. -/
def sideT (p : Pty) : List UInt8 := beBytes p.sp.toNat 2 ++ p.sys.list ++ beBytes p.key.toNat 2 ++ beBytes p.pp.toNat 2 ++ beBytes p.port.toNat 2 ++ beBytes p.st.toNat 1 ++ [0, 0, 0]
theorem sideT_len (p : Pty) : (sideT p).length = 18 := by simp [sideT, beBytes_len, Ad.list]
theorem sideB_T (k : Nat) (p : Pty) : sideB k p = (beBytes k 1 ++ [0x14]) ++ sideT p := by simp [sideB, sideC, sideT, List.append_assoc]
theorem cut_mid (a m r : List UInt8) (i j : Nat) (hi : a.length = i) (hj : i + m.length = j) : ((a ++ (m ++ r)).take j).drop i = m := by
  subst hi hj
  rw [← List.append_assoc, List.take_left' (by simp), List.drop_left' rfl]
theorem sides_eq (l : Lac) : Lac.bytes ⟨l.pa, l.ac, l.delay⟩ = l.bytes.take 4 ++ (l.bytes.take 42).drop 24 ++ (l.bytes.take 24).drop 22 ++ (l.bytes.take 22).drop 4 ++ l.bytes.drop 42 := by
  have hx := sideT_len l.ac
  have hy := sideT_len l.pa
  have hA : ([1, 1] ++ (beBytes 1 1 ++ [0x14]) : List UInt8).length = 4 := by simp [beBytes_len]
  have hB : (beBytes 2 1 ++ [0x14] : List UInt8).length = 2 := by simp [beBytes_len]
  have e1 : l.bytes = ([1, 1] ++ (beBytes 1 1 ++ [0x14])) ++ (sideT l.ac ++ ((beBytes 2 1 ++ [0x14]) ++ (sideT l.pa ++ ([3, 16] ++ beBytes l.delay.toNat 2 ++ List.replicate 64 0)))) := by
    unfold Lac.bytes; rw [sideB_T, sideB_T]; simp only [List.append_assoc]
  have e2 : Lac.bytes ⟨l.pa, l.ac, l.delay⟩ = ([1, 1] ++ (beBytes 1 1 ++ [0x14])) ++ (sideT l.pa ++ ((beBytes 2 1 ++ [0x14]) ++ (sideT l.ac ++ ([3, 16] ++ beBytes l.delay.toNat 2 ++ List.replicate 64 0)))) := by
    unfold Lac.bytes; rw [sideB_T, sideB_T]; simp only [List.append_assoc]
  rw [e1, e2]
  generalize ([1, 1] ++ (beBytes 1 1 ++ [0x14]) : List UInt8) = A at *
  generalize (beBytes 2 1 ++ [0x14] : List UInt8) = B at *
  generalize sideT l.ac = x at *
  generalize sideT l.pa = y at *
  generalize ([3, 16] ++ beBytes l.delay.toNat 2 ++ List.replicate 64 0 : List UInt8) = r at *
  have h1 : (A ++ (x ++ (B ++ (y ++ r)))).take 4 = A := List.take_left' hA
  have h2 : ((A ++ (x ++ (B ++ (y ++ r)))).take 42).drop 24 = y := by
    have := cut_mid (A ++ (x ++ B)) y r 24 42 (by simp; omega) (by omega)
    simpa [List.append_assoc] using this
  have h3 : ((A ++ (x ++ (B ++ (y ++ r)))).take 24).drop 22 = B := by
    have := cut_mid (A ++ x) B (y ++ r) 22 24 (by simp; omega) (by omega)
    simpa [List.append_assoc] using this
  have h4 : ((A ++ (x ++ (B ++ (y ++ r)))).take 22).drop 4 = x := cut_mid A x _ 4 22 hA (by omega)
  have h5 : (A ++ (x ++ (B ++ (y ++ r)))).drop 42 = r := by
    have : (A ++ (x ++ (B ++ y)) ++ r).drop 42 = r := List.drop_left' (by simp; omega)
    simpa [List.append_assoc] using this
  rw [h1, h2, h3, h4, h5]
  simp only [List.append_assoc]
theorem sides_ok (l : Lac) : (Lac.okB ⟨l.pa, l.ac, l.delay⟩) = l.okB := by
  unfold Lac.okB; rw [Bool.and_comm l.pa.okB l.ac.okB]
set_option maxRecDepth 100000 in
set_option maxHeartbeats 2000000 in
theorem law_LacpSides (v : Value) (l : Lac) (w : World) (hv : v = .agg l.vals.toArray) :
    Calls Try.prog 7 #[v] w fun e w' => e = .returned (.bool true) ∧ Below w.heap.size w w' := by
  subst hv
  have H0 := Lib.hid ((St.init w).alloc l.vals 56)
  have HA := Lib.hid (Pty.one l.ac)
  have HP := Lib.hid (Pty.one l.pa)
  cases hk : l.okB
  · have HW := Lib.hid (lacWrite_no l hk)
    have HV := Lib.hid (lacWrite_no ⟨l.pa, l.ac, l.delay⟩ (by rw [sides_ok, hk]))
    clear hk
    unfold erV at HW HV
    go_enter Try.func7, Try.ntmps7
    go_upto_region 1 with (fail)
    generalize World.alloc _ _ = w0 at *
    go_upto_region 4 with (first
      | ((with_reducible refine (linked_any _).mono ?_)
         rintro e w1 ⟨rfl, hb1⟩
         have H1 := Lib.hid (H0.out.ext hb1)
         clear hb1)
      | (with_reducible refine wpList_load_rng (ty := 56) l.vals (by with_unfolding_all rfl) (Blk.box (H1.out.at 0 rfl)).range Try.underlying56 (by with_unfolding_all rfl) (by with_unfolding_all exact info56) ?_)
      | ((with_reducible refine (HW.out _).mono ?_)
         rintro e w2 ⟨rfl, hb2⟩
         have H2 := Lib.hid (H1.out.ext hb2)
         clear hb2))
    go_upto_region 5 with (first
      | (with_reducible refine wpList_load_rng (ty := 54) l.pa.vals (by with_unfolding_all rfl) (lac_rng (Blk.box (H2.out.at 0 rfl))).2.1 Try.underlying54 (by with_unfolding_all rfl) (by with_unfolding_all exact info54) ?_)
      | (with_reducible refine wpList_load_rng (ty := 54) l.ac.vals (by with_unfolding_all rfl) (lac_rng (Blk.box (H2.out.at 0 rfl))).1 Try.underlying54 (by with_unfolding_all rfl) (by with_unfolding_all exact info54) ?_)
      | (with_reducible refine wpList_store_blk (ty := 54) (o := 0) _ l.pa.vals (by with_unfolding_all rfl) (by with_unfolding_all rfl) (H2.out.at 0 rfl) (by with_unfolding_all exact Nat.le_of_ble_eq_true rfl) (by with_unfolding_all exact info54) HP.out (fun W3 hBW3 hoW3 => ?_))
      | (with_reducible refine wpList_store_blk (ty := 54) (o := 11) _ l.ac.vals (by with_unfolding_all rfl) (by with_unfolding_all rfl) (by with_unfolding_all exact (show Blk W3 w.heap.size 56 (Lac.vals ⟨l.pa, l.pa, l.delay⟩) from hBW3)) (by with_unfolding_all exact Nat.le_of_ble_eq_true rfl) (by with_unfolding_all exact info54) HA.out (fun W4 hBW4 hoW4 => ?_)))
    have H4 : Hid (St w.heap.size w W4 [bk w.heap.size 56 (Lac.vals ⟨l.pa, l.ac, l.delay⟩)]) := Lib.hid ((H2.out.sets (L' := Lac.vals ⟨l.pa, l.pa, l.delay⟩) hBW3 hoW3).sets (L' := Lac.vals ⟨l.pa, l.ac, l.delay⟩) hBW4 hoW4)
    clear hBW3 hoW3 hBW4 hoW4
    go_wp2_with (first
      | (with_reducible refine wpList_load_rng (ty := 56) (Lac.vals ⟨l.pa, l.ac, l.delay⟩) (by with_unfolding_all rfl) (Blk.box (H4.out.at 0 rfl)).range Try.underlying56 (by with_unfolding_all rfl) (by with_unfolding_all exact info56) ?_)
      | ((with_reducible refine (HV.out _).mono ?_)
         rintro e w5 ⟨rfl, hb5⟩
         have H5 := Lib.hid (H4.out.ext hb5)
         clear hb5))
    go_ret
    exact ⟨rfl, H5.out.below⟩
  · have HW := Lib.hid (lacWrite_ok l hk)
    have HV := Lib.hid (lacWrite_ok ⟨l.pa, l.ac, l.delay⟩ (by rw [sides_ok, hk]))
    have hlen := Lac.bytes_len l
    have hE : (Lac.bytes ⟨l.pa, l.ac, l.delay⟩ == (l.bytes.take 4 ++ (l.bytes.take 42).drop 24 ++ (l.bytes.take 24).drop 22 ++ (l.bytes.take 22).drop 4 ++ l.bytes.drop 42)) = true := by rw [beq_iff_eq]; exact sides_eq l
    simp only [List.append_assoc] at hE
    have HE := Lib.hid hE
    clear hk hE
    generalize l.bytes = S at *
    generalize Lac.bytes ⟨l.pa, l.ac, l.delay⟩ = T at *
    have hlb : ((S.length : Int) == 110) = true := by rw [hlen]; rfl
    have hge : 110 ≤ S.length := by omega
    have hle : S.length ≤ 110 := by omega
    clear hlen
    go_enter Try.func7, Try.ntmps7
    go_upto_region 1 with (fail)
    generalize World.alloc _ _ = w0 at *
    go_upto_region 4 with (first
      | ((with_reducible refine (linked_any _).mono ?_)
         rintro e w1 ⟨rfl, hb1⟩
         have H1 := Lib.hid (H0.out.ext hb1)
         clear hb1)
      | (with_reducible refine wpList_load_rng (ty := 56) l.vals (by with_unfolding_all rfl) (Blk.box (H1.out.at 0 rfl)).range Try.underlying56 (by with_unfolding_all rfl) (by with_unfolding_all exact info56) ?_)
      | ((with_reducible refine (HW.out _).mono ?_)
         rintro e w2 ⟨rfl, hb2⟩
         have H2 := Lib.hid (H1.out.ext hb2)
         clear hb2))
    go_upto_region 5 with (first
      | (with_reducible refine wpList_load_rng (ty := 54) l.pa.vals (by with_unfolding_all rfl) (lac_rng (Blk.box (H2.out.at 0 rfl))).2.1 Try.underlying54 (by with_unfolding_all rfl) (by with_unfolding_all exact info54) ?_)
      | (with_reducible refine wpList_load_rng (ty := 54) l.ac.vals (by with_unfolding_all rfl) (lac_rng (Blk.box (H2.out.at 0 rfl))).1 Try.underlying54 (by with_unfolding_all rfl) (by with_unfolding_all exact info54) ?_)
      | (with_reducible refine wpList_store_blk (ty := 54) (o := 0) _ l.pa.vals (by with_unfolding_all rfl) (by with_unfolding_all rfl) (H2.out.at 0 rfl) (by with_unfolding_all exact Nat.le_of_ble_eq_true rfl) (by with_unfolding_all exact info54) HP.out (fun W3 hBW3 hoW3 => ?_))
      | (with_reducible refine wpList_store_blk (ty := 54) (o := 11) _ l.ac.vals (by with_unfolding_all rfl) (by with_unfolding_all rfl) (by with_unfolding_all exact (show Blk W3 w.heap.size 56 (Lac.vals ⟨l.pa, l.pa, l.delay⟩) from hBW3)) (by with_unfolding_all exact Nat.le_of_ble_eq_true rfl) (by with_unfolding_all exact info54) HA.out (fun W4 hBW4 hoW4 => ?_)))
    have H4 : Hid (St w.heap.size w W4 [bk w.heap.size 56 (Lac.vals ⟨l.pa, l.ac, l.delay⟩)]) := Lib.hid ((H2.out.sets (L' := Lac.vals ⟨l.pa, l.pa, l.delay⟩) hBW3 hoW3).sets (L' := Lac.vals ⟨l.pa, l.ac, l.delay⟩) hBW4 hoW4)
    clear hBW3 hoW3 hBW4 hoW4
    go_wp2_with (first
      | (with_reducible refine wpList_load_rng (ty := 56) (Lac.vals ⟨l.pa, l.ac, l.delay⟩) (by with_unfolding_all rfl) (Blk.box (H4.out.at 0 rfl)).range Try.underlying56 (by with_unfolding_all rfl) (by with_unfolding_all exact info56) ?_)
      | ((with_reducible refine (HV.out _).mono ?_)
         rintro e w5 ⟨rfl, hb5⟩
         have H5 := Lib.hid (H4.out.ext hb5)
         clear hb5))
    refine wp_region_ext (by kernel_rfl) (by kernel_rfl) ?_
    repeat (go_big_quiet_step (fail))
    refine wpQuiet_nil ?_
    rintro w6 ⟨⟨_, hb6⟩, rfl⟩
    go_wp2_with fail
    go_ret
    exact ⟨congrArg (fun b => Ending.returned (Value.bool b)) HE.out, H5.out.below.trans (hb6.mono H5.out.le)⟩
end Go.Proofs.Ytidcjbanhdpkkaa

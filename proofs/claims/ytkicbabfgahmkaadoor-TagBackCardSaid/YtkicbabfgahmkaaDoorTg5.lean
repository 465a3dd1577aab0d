/- The law TagBack. (Printed by tools/mktg4.py.) -/
import Derived.Test.YtkicbabfgahmkaaDoorTg4
import Derived.Test.YtkicbabfgahmkaaDoorPick
set_option linter.all false
namespace Go.Proofs.YtkicbabfgahmkaaDoor
open Go.RowKit
set_option maxRecDepth 100000 in
set_option maxHeartbeats 4000000 in
theorem law_TagBack (v0 : Value) (t : Tk) (n : Int) (hn : (Lit.int .i64 n).wf = true) (w : World) (hv0 : v0 = .agg t.vals.toArray) (hV : Vars w) :
    Calls Tryd.prog 6 #[v0, .int .i64 n] w fun e w' => e = .returned (.bool true) ∧ Below w.heap.size w w' := by
  subst hv0
  have H0 := Lib.hid ((St.init w).alloc t.vals 39)
  have HV := Lib.hid (hV.ext H0.out.below)
  have HA := Lib.hid (tagged_any _ HV.out)
  have hz := pickN_lt n 65536 (by decide)
  have HPk : Hid (∀ W, Calls Tryd.prog 20 #[.int .i64 n, .int .i64 65536] W fun e w' => e = .returned (.int .i64 (pickN n 65536 : Nat)) ∧ W = w') := Lib.hid (fun W => pick_any n 65536 W (by decide) (by decide))
  generalize pickN n 65536 = z at *
  have HU2 := Lib.hid (fun W => tkUnpack_any t.s z hz W)
  have hRt := fun W => tkRight_any t W
  clear hV
  cases hok : t.okB
  · have HR : Hid (∀ W, Calls Tryd.prog 23 #[.agg t.vals.toArray] W fun e w' => e = .returned (.bool false) ∧ Below W.heap.size W w') := Lib.hid (fun W => by rw [← hok]; exact hRt W)
    clear hRt hok
    go_enter Tryd.func6, Tryd.ntmps6
    go_upto_region 1 with (fail)
    generalize World.alloc _ _ = w1 at *
    go_upto_region 3 with (first
      | ((with_reducible refine HA.out.mono ?_)
         rintro e w2 ⟨rfl, hb2⟩
         have H2 := Lib.hid (H0.out.ext hb2)
         have V2 := Lib.hid (HV.out.ext hb2)
         have R2 := Lib.hid (Blk.box (H2.out.at 0 rfl)).range
         clear hb2 HV))
    go_upto_region 10 with (first
      | (with_reducible refine wpList_load_rng (ty := 39) t.vals (by with_unfolding_all rfl) R2.out Tryd.underlying39 (by with_unfolding_all rfl) (by with_unfolding_all exact info39) ?_)
      | ((with_reducible refine (HR.out _).mono ?_)
         rintro e w3 ⟨rfl, hb3⟩
         have H3 := Lib.hid (H2.out.ext hb3)
         clear hb3))
    have HZ := Lib.hid hz
    clear hz
    have q0 : w3.cell? ⟨w.heap.size, 0, none⟩ = some (.bool t.s) := (Blk.box (H3.out.pull 0 rfl).head).cell 0
    by_cases h95 : z % 4096 = 4095
    · have HU : Hid (∀ W, Calls Tryd.prog 25 #[.bool t.s, .int .i64 (z : Int)] W fun e w' => e = .returned (.tuple #[.agg (Tk.vals ⟨false, 0, false, 0⟩).toArray, .iface 80 (.int .i64 3)]) ∧ Below W.heap.size W w') := Lib.hid (fun W => by
        have := HU2.out W
        unfold unpV at this
        rwa [if_pos h95] at this)
      have ha : bits .and .i64 (z : Int) 4095 = 4095 := by
        have := and_mod z 12 HZ.out (by decide)
        rw [show z % 2 ^ 12 = z % 4096 from rfl, h95] at this
        exact this
      clear h95 HU2
      go_wp2_with (first
        | ((with_reducible refine (HPk.out _).mono ?_)
           rintro e w10 ⟨rfl, rfl⟩
           have H10 := H3)
        | ((with_reducible refine (HU.out _).mono ?_)
           rintro e w11 ⟨rfl, hb11⟩
           have H11 := Lib.hid (H10.out.ext hb11)
           clear hb11)
        | (with_reducible refine wpList_store_blk (ty := 39) (o := 0) _ (Tk.vals ⟨false, 0, false, 0⟩) (by with_unfolding_all rfl) (by with_unfolding_all rfl) (Blk.new w11 zTk 39) (by with_unfolding_all exact Nat.le_refl _) (by with_unfolding_all exact info39) (Tk.one _) (fun W12 hBW12 hoW12 => ?_)))
      have h12 := (H11.out.alloc zTk 39).sets (L' := Tk.vals ⟨false, 0, false, 0⟩) hBW12 hoW12
      go_ret
      exact ⟨rfl, h12.below⟩
    · have hup := unpack_ok t.s HZ.out h95
      have HU : Hid (∀ W, Calls Tryd.prog 25 #[.bool t.s, .int .i64 (z : Int)] W fun e w' => e = .returned (.tuple #[.agg (unpackM t.s z).vals.toArray, .nilIface]) ∧ Below W.heap.size W w') := Lib.hid (fun W => by
        have := HU2.out W
        unfold unpV at this
        rwa [if_neg h95] at this)
      have HPz : Hid (∀ W, Calls Tryd.prog 24 #[.agg (unpackM t.s z).vals.toArray] W fun e w' => e = .returned (.tuple #[.int .i64 (z : Int), .nilIface]) ∧ Below W.heap.size W w') := Lib.hid (fun W => by
        have := tkPack_ok _ hup.1 W
        rwa [hup.2] at this)
      clear h95 HU2 hup
      generalize unpackM t.s z = u at *
      go_upto_region 12 with (first
        | ((with_reducible refine (HPk.out _).mono ?_)
           rintro e w10 ⟨rfl, rfl⟩
           have H10 := H3)
        | ((with_reducible refine (HU.out _).mono ?_)
           rintro e w11 ⟨rfl, hb11⟩
           have H11 := Lib.hid (H10.out.ext hb11)
           clear hb11)
        | (with_reducible refine wpList_store_blk (ty := 39) (o := 0) _ u.vals (by with_unfolding_all rfl) (by with_unfolding_all rfl) (Blk.new w11 zTk 39) (by with_unfolding_all exact Nat.le_refl _) (by with_unfolding_all exact info39) (Tk.one _) (fun W12 hBW12 hoW12 => ?_)))
      have H12 := Lib.hid ((H11.out.alloc zTk 39).sets (L' := u.vals) hBW12 hoW12)
      clear hBW12 hoW12
      have R12 := Lib.hid (Blk.box (H12.out.at 0 rfl)).range
      generalize w11.heap.size = g11 at *
      go_wp2_with (first
        | (with_reducible refine wpList_load_rng (ty := 39) u.vals (by with_unfolding_all rfl) R12.out Tryd.underlying39 (by with_unfolding_all rfl) (by with_unfolding_all exact info39) ?_)
        | ((with_reducible refine (HPz.out _).mono ?_)
           rintro e w13 ⟨rfl, hb13⟩
           have H13 := Lib.hid (H12.out.ext hb13)
           clear hb13))
      go_ret
      exact ⟨rfl, H13.out.below⟩
  · have HR : Hid (∀ W, Calls Tryd.prog 23 #[.agg t.vals.toArray] W fun e w' => e = .returned (.bool true) ∧ Below W.heap.size W w') := Lib.hid (fun W => by rw [← hok]; exact hRt W)
    have HK := Lib.hid (fun W => tkPack_ok t hok W)
    have hun := unpack_num hok
    have HU1 : Hid (∀ W, Calls Tryd.prog 25 #[.bool t.s, .int .i64 (t.num : Int)] W fun e w' => e = .returned (.tuple #[.agg t.vals.toArray, .nilIface]) ∧ Below W.heap.size W w') := Lib.hid (fun W => by
      have := tkUnpack_any t.s t.num (Tk.num_lt hok) W
      unfold unpV at this
      rwa [if_neg hun.2, hun.1] at this)
    have HT : Hid (∀ W, Vars W → Calls Tryd.prog 26 #[.agg t.vals.toArray] W fun e w' => e = .returned (.tuple #[.string ⟨t.text.toArray⟩, .nilIface]) ∧ Below W.heap.size W w') := Lib.hid (fun W h => by
      have := tkText_any t W h
      rw [hok] at this
      exact this)
    have HPs : Hid (∀ W, Vars W → Calls Tryd.prog 27 #[.string ⟨t.text.toArray⟩] W fun e w' => e = .returned (.tuple #[.agg t.vals.toArray, .nilIface]) ∧ Below W.heap.size W w') := Lib.hid (fun W h => by
      have := tkParse_any t.text (by have := Tk.text_len hok; omega) W h
      rwa [tk_ofText hok] at this)
    have HN : ∀ W, (binOp .neq 39 (.agg #[.bool t.s, .int .i64 t.pcp, .bool t.dei, .int .i64 t.vid]) (.agg #[.bool t.s, .int .i64 t.pcp, .bool t.dei, .int .i64 t.vid])).run Tryd.prog W = .ok (.bool false) W := fun W => by
      have := tk_neq t t W
      rw [decide_eq_true rfl] at this
      exact this
    have HG : ∀ p q W, (eqGuard .neq 39 p q (.agg #[.bool t.s, .int .i64 t.pcp, .bool t.dei, .int .i64 t.vid]) (.agg #[.bool t.s, .int .i64 t.pcp, .bool t.dei, .int .i64 t.vid])).run Tryd.prog W = .ok () W := fun p q W => tk_guard .neq t t p q W
    clear hRt hok hun
    generalize t.text = tx at *
    generalize t.num = k at *
    go_enter Tryd.func6, Tryd.ntmps6
    go_upto_region 1 with (fail)
    generalize World.alloc _ _ = w1 at *
    go_upto_region 3 with (first
      | ((with_reducible refine HA.out.mono ?_)
         rintro e w2 ⟨rfl, hb2⟩
         have H2 := Lib.hid (H0.out.ext hb2)
         have V2 := Lib.hid (HV.out.ext hb2)
         have R2 := Lib.hid (Blk.box (H2.out.at 0 rfl)).range
         clear hb2 HV))
    go_upto_region 5 with (first
      | (with_reducible refine wpList_load_rng (ty := 39) t.vals (by with_unfolding_all rfl) R2.out Tryd.underlying39 (by with_unfolding_all rfl) (by with_unfolding_all exact info39) ?_)
      | ((with_reducible refine (HR.out _).mono ?_)
         rintro e w3 ⟨rfl, hb3⟩
         have H3 := Lib.hid (H2.out.ext hb3)
         have V3 := Lib.hid (V2.out.ext hb3)
         have R3 := Lib.hid (Blk.box (H3.out.at 0 rfl)).range
         clear hb3 R2)
      | (with_reducible refine wpList_load_rng (ty := 39) t.vals (by with_unfolding_all rfl) R3.out Tryd.underlying39 (by with_unfolding_all rfl) (by with_unfolding_all exact info39) ?_)
      | ((with_reducible refine (HK.out w3).mono ?_)
         rintro e w4 ⟨rfl, hb4⟩
         have H4 := Lib.hid (H3.out.ext hb4)
         have V4 := Lib.hid (V3.out.ext hb4)
         clear hb4))
    have q0 : w4.cell? ⟨w.heap.size, 0, none⟩ = some (.bool t.s) := (Blk.box (H4.out.at 0 rfl)).cell 0
    go_upto_region 6 with (first
      | ((with_reducible refine (HU1.out w4).mono ?_)
         rintro e w5 ⟨rfl, hb5⟩
         have H5 := Lib.hid (H4.out.ext hb5)
         have V5 := Lib.hid (V4.out.ext hb5)
         clear hb5)
      | (with_reducible refine wpList_store_blk (ty := 39) (o := 0) _ t.vals (by with_unfolding_all rfl) (by with_unfolding_all rfl) (Blk.new w5 zTk 39) (by with_unfolding_all exact Nat.le_refl _) (by with_unfolding_all exact info39) (Tk.one _) (fun W6 hBW6 hoW6 => ?_)))
    have H6 : Hid (St w.heap.size w W6 (bk w5.heap.size 39 t.vals :: bk w.heap.size 39 t.vals :: [])) := Lib.hid ((H5.out.alloc zTk 39).sets (L' := t.vals) hBW6 hoW6)
    have V6 : Hid (Vars W6) := Lib.hid (V5.out.ext (Only.fresh hoW6).1)
    clear hBW6 hoW6
    have R6 := Lib.hid (Blk.box (H6.out.at 1 rfl)).range
    generalize w5.heap.size = g5 at *
    go_upto_region 8 with (first
      | (with_reducible refine wpList_load_rng (ty := 39) t.vals (by with_unfolding_all rfl) R6.out Tryd.underlying39 (by with_unfolding_all rfl) (by with_unfolding_all exact info39) ?_)
      | ((with_reducible refine (HT.out W6 V6.out).mono ?_)
         rintro e w7 ⟨rfl, hb7⟩
         have H7 := Lib.hid (H6.out.ext hb7)
         have V7 := Lib.hid (V6.out.ext hb7)
         clear hb7)
      | ((with_reducible refine (HPs.out w7 V7.out).mono ?_)
         rintro e w8 ⟨rfl, hb8⟩
         have H8 := Lib.hid (H7.out.ext hb8)
         clear hb8)
      | (with_reducible refine wpList_store_blk (ty := 39) (o := 0) _ t.vals (by with_unfolding_all rfl) (by with_unfolding_all rfl) (Blk.new w8 zTk 39) (by with_unfolding_all exact Nat.le_refl _) (by with_unfolding_all exact info39) (Tk.one _) (fun W9 hBW9 hoW9 => ?_)))
    have H9 : Hid (St w.heap.size w W9 (bk w8.heap.size 39 t.vals :: bk g5 39 t.vals :: bk w.heap.size 39 t.vals :: [])) := Lib.hid ((H8.out.alloc zTk 39).sets (L' := t.vals) hBW9 hoW9)
    clear hBW9 hoW9 q0
    generalize w8.heap.size = g8 at *
    have c0 : W9.cell? ⟨g8, 0, none⟩ = some (.bool t.s) := (Blk.box (H9.out.at 0 rfl)).cell 0
    have c1 : W9.cell? ⟨g8, 1, none⟩ = some (.int .i64 t.pcp) := (Blk.box (H9.out.at 0 rfl)).cell 1
    have c2 : W9.cell? ⟨g8, 2, none⟩ = some (.bool t.dei) := (Blk.box (H9.out.at 0 rfl)).cell 2
    have c3 : W9.cell? ⟨g8, 3, none⟩ = some (.int .i64 t.vid) := (Blk.box (H9.out.at 0 rfl)).cell 3
    have d0 : W9.cell? ⟨g5, 0, none⟩ = some (.bool t.s) := (Blk.box (H9.out.at 1 rfl)).cell 0
    have d1 : W9.cell? ⟨g5, 1, none⟩ = some (.int .i64 t.pcp) := (Blk.box (H9.out.at 1 rfl)).cell 1
    have d2 : W9.cell? ⟨g5, 2, none⟩ = some (.bool t.dei) := (Blk.box (H9.out.at 1 rfl)).cell 2
    have d3 : W9.cell? ⟨g5, 3, none⟩ = some (.int .i64 t.vid) := (Blk.box (H9.out.at 1 rfl)).cell 3
    have e0 : W9.cell? ⟨w.heap.size, 0, none⟩ = some (.bool t.s) := (Blk.box (H9.out.at 2 rfl)).cell 0
    have e1 : W9.cell? ⟨w.heap.size, 1, none⟩ = some (.int .i64 t.pcp) := (Blk.box (H9.out.at 2 rfl)).cell 1
    have e2 : W9.cell? ⟨w.heap.size, 2, none⟩ = some (.bool t.dei) := (Blk.box (H9.out.at 2 rfl)).cell 2
    have e3 : W9.cell? ⟨w.heap.size, 3, none⟩ = some (.int .i64 t.vid) := (Blk.box (H9.out.at 2 rfl)).cell 3
    go_upto_region 10 with (fail)
    clear c0 c1 c2 c3 d0 d1 d2 d3 e0 e1 e2 e3 HN HG
    have HZ := Lib.hid hz
    clear hz
    have q0 : W9.cell? ⟨w.heap.size, 0, none⟩ = some (.bool t.s) := (Blk.box (H9.out.pull 2 rfl).head).cell 0
    by_cases h95 : z % 4096 = 4095
    · have HU : Hid (∀ W, Calls Tryd.prog 25 #[.bool t.s, .int .i64 (z : Int)] W fun e w' => e = .returned (.tuple #[.agg (Tk.vals ⟨false, 0, false, 0⟩).toArray, .iface 80 (.int .i64 3)]) ∧ Below W.heap.size W w') := Lib.hid (fun W => by
        have := HU2.out W
        unfold unpV at this
        rwa [if_pos h95] at this)
      have ha : bits .and .i64 (z : Int) 4095 = 4095 := by
        have := and_mod z 12 HZ.out (by decide)
        rw [show z % 2 ^ 12 = z % 4096 from rfl, h95] at this
        exact this
      clear h95 HU2
      go_wp2_with (first
        | ((with_reducible refine (HPk.out _).mono ?_)
           rintro e w10 ⟨rfl, rfl⟩
           have H10 := H9)
        | ((with_reducible refine (HU.out _).mono ?_)
           rintro e w11 ⟨rfl, hb11⟩
           have H11 := Lib.hid (H10.out.ext hb11)
           clear hb11)
        | (with_reducible refine wpList_store_blk (ty := 39) (o := 0) _ (Tk.vals ⟨false, 0, false, 0⟩) (by with_unfolding_all rfl) (by with_unfolding_all rfl) (Blk.new w11 zTk 39) (by with_unfolding_all exact Nat.le_refl _) (by with_unfolding_all exact info39) (Tk.one _) (fun W12 hBW12 hoW12 => ?_)))
      have h12 := (H11.out.alloc zTk 39).sets (L' := Tk.vals ⟨false, 0, false, 0⟩) hBW12 hoW12
      go_ret
      exact ⟨rfl, h12.below⟩
    · have hup := unpack_ok t.s HZ.out h95
      have HU : Hid (∀ W, Calls Tryd.prog 25 #[.bool t.s, .int .i64 (z : Int)] W fun e w' => e = .returned (.tuple #[.agg (unpackM t.s z).vals.toArray, .nilIface]) ∧ Below W.heap.size W w') := Lib.hid (fun W => by
        have := HU2.out W
        unfold unpV at this
        rwa [if_neg h95] at this)
      have HPz : Hid (∀ W, Calls Tryd.prog 24 #[.agg (unpackM t.s z).vals.toArray] W fun e w' => e = .returned (.tuple #[.int .i64 (z : Int), .nilIface]) ∧ Below W.heap.size W w') := Lib.hid (fun W => by
        have := tkPack_ok _ hup.1 W
        rwa [hup.2] at this)
      clear h95 HU2 hup
      generalize unpackM t.s z = u at *
      go_upto_region 12 with (first
        | ((with_reducible refine (HPk.out _).mono ?_)
           rintro e w10 ⟨rfl, rfl⟩
           have H10 := H9)
        | ((with_reducible refine (HU.out _).mono ?_)
           rintro e w11 ⟨rfl, hb11⟩
           have H11 := Lib.hid (H10.out.ext hb11)
           clear hb11)
        | (with_reducible refine wpList_store_blk (ty := 39) (o := 0) _ u.vals (by with_unfolding_all rfl) (by with_unfolding_all rfl) (Blk.new w11 zTk 39) (by with_unfolding_all exact Nat.le_refl _) (by with_unfolding_all exact info39) (Tk.one _) (fun W12 hBW12 hoW12 => ?_)))
      have H12 := Lib.hid ((H11.out.alloc zTk 39).sets (L' := u.vals) hBW12 hoW12)
      clear hBW12 hoW12
      have R12 := Lib.hid (Blk.box (H12.out.at 0 rfl)).range
      generalize w11.heap.size = g11 at *
      go_wp2_with (first
        | (with_reducible refine wpList_load_rng (ty := 39) u.vals (by with_unfolding_all rfl) R12.out Tryd.underlying39 (by with_unfolding_all rfl) (by with_unfolding_all exact info39) ?_)
        | ((with_reducible refine (HPz.out _).mono ?_)
           rintro e w13 ⟨rfl, hb13⟩
           have H13 := Lib.hid (H12.out.ext hb13)
           clear hb13))
      go_ret
      exact ⟨rfl, H13.out.below⟩
end Go.Proofs.YtkicbabfgahmkaaDoor

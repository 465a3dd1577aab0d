/- Facts on tags; the law TagOnly. (Printed by tools/mktg4.py.) -/
import Derived.Test.YtkicbabfgahmkaaDoorTg3
import Derived.Test.YtkicbabfgahmkaaDoorOpTk
import Derived.Laws.StructEq
set_option linter.all false
namespace Go.Proofs.YtkicbabfgahmkaaDoor
open Go.RowKit
theorem tk_eqIn (x y : Tk) (d : Nat) (W : World) : (Op.equalIn (d + 1 + 1) 39 (.agg x.vals.toArray) (.agg y.vals.toArray)).run Tryd.prog W = .ok (decide (x = y)) W := by
  have u3 := Tryd.underlying3
  have a3 := Tryd.isAgg3
  have z3 := Tryd.sizeOf3
  have u4 := Tryd.underlying4
  have a4 := Tryd.isAgg4
  have z4 := Tryd.sizeOf4
  have hS : Tryd.prog.underlying 39 = some (.struct (Tryd.prog.fieldsOf 39)) := by kernel_rfl
  have hp : Tryd.prog.stoodInHeld 39 = false := by kernel_rfl
  obtain ⟨a, b, c, e⟩ := x
  obtain ⟨a', b', c', e'⟩ := y
  simp only [Tk.vals]
  rw [run_equalIn_agg W (d + 1) 39 _ _ hS hp]
  simp only [Program.fieldsOf, Tryd.underlying39]
  go_simp
  by_cases h2 : b = b' <;> by_cases h4 : e = e' <;> cases a <;> cases a' <;> cases c <;> cases c' <;> simp [h2, h4]
theorem tk_eql (x y : Tk) (W : World) : (binOp .eql 39 (.agg x.vals.toArray) (.agg y.vals.toArray)).run Tryd.prog W = .ok (.bool (decide (x = y))) W := by
  rw [run_eql_struct, show (10000 : Nat) = 9998 + 1 + 1 from rfl, tk_eqIn]; rfl
theorem tk_neq (x y : Tk) (W : World) : (binOp .neq 39 (.agg x.vals.toArray) (.agg y.vals.toArray)).run Tryd.prog W = .ok (.bool (!decide (x = y))) W := by
  rw [run_neq_struct, show (10000 : Nat) = 9998 + 1 + 1 from rfl, tk_eqIn]; rfl
theorem tk_guard (op : BinOp) (x y : Tk) (p q : Operand) (W : World) : (eqGuard op 39 p q (.agg x.vals.toArray) (.agg y.vals.toArray)).run Tryd.prog W = .ok () W := run_eqGuard_agg W op _ p q _ _ (by kernel_rfl)
theorem text_s75 : Tk.text ⟨true, 7, false, 5⟩ = [115, 55, 46, 53] := by
  show 115 :: (Lib.decDigits 7 ++ ([] ++ 46 :: Lib.decDigits 5)) = _
  rw [dec_one 7 (by decide), dec_one 5 (by decide)]; rfl
theorem parse_s75 : Tk.ofText [115, 55, 46, 53] = some ⟨true, 7, false, 5⟩ := by
  rw [← text_s75]
  exact tk_ofText (by decide)
theorem tk_built3 : Tryd.prog.built 39 [(1, .int .i64 3), (2, .bool true), (3, .int .i64 100)] = some (Tk.vals ⟨false, 3, true, 100⟩).toArray := by kernel_rfl
theorem tk_built5 : Tryd.prog.built 39 [(0, .bool true), (1, .int .i64 7), (3, .int .i64 5)] = some (Tk.vals ⟨true, 7, false, 5⟩).toArray := by kernel_rfl
set_option maxRecDepth 100000 in
set_option maxHeartbeats 2000000 in
theorem tagged_any (w : World) (hV : Vars w) :
    Calls Tryd.prog 22 #[] w fun e w' => e = .returned (.bool true) ∧ Below w.heap.size w w' := by
  have hP := fun W (h : Vars W) => tkParse_any [115, 55, 46, 53] (by decide) W h
  rw [parse_s75] at hP
  have HP : Hid (∀ W, Vars W → Calls Tryd.prog 27 #[.string ⟨#[115, 55, 46, 53]⟩] W fun e w' => e = .returned (.tuple #[.agg (Tk.vals ⟨true, 7, false, 5⟩).toArray, .nilIface]) ∧ Below W.heap.size W w') := Lib.hid hP
  have HK : Hid (∀ W, Calls Tryd.prog 24 #[.agg (Tk.vals ⟨false, 3, true, 100⟩).toArray] W fun e w' => e = .returned (.tuple #[.int .i64 28772, .nilIface]) ∧ Below W.heap.size W w') := Lib.hid (fun W => tkPack_ok ⟨false, 3, true, 100⟩ (by decide) W)
  have HE : ∀ W, (binOp .eql 39 (.agg #[.bool true, .int .i64 7, .bool false, .int .i64 5]) (.agg #[.bool true, .int .i64 7, .bool false, .int .i64 5])).run Tryd.prog W = .ok (.bool true) W := fun W => by
    have := tk_eql ⟨true, 7, false, 5⟩ ⟨true, 7, false, 5⟩ W
    rw [decide_eq_true rfl] at this
    exact this
  have HG : ∀ p q W, (eqGuard .eql 39 p q (.agg #[.bool true, .int .i64 7, .bool false, .int .i64 5]) (.agg #[.bool true, .int .i64 7, .bool false, .int .i64 5])).run Tryd.prog W = .ok () W := fun p q W => tk_guard .eql ⟨true, 7, false, 5⟩ ⟨true, 7, false, 5⟩ p q W
  have HV := Lib.hid hV
  clear hP hV
  go_enter Tryd.func22, Tryd.ntmps22
  go_upto_region 3 with (first
    | (with_reducible refine wpList_buildA (t := 39) [(1, .int .i64 3), (2, .bool true), (3, .int .i64 100)] (Tk.vals ⟨false, 3, true, 100⟩) (by with_unfolding_all rfl) tk_built3 ?_)
    | ((with_reducible refine (HK.out _).mono ?_)
       rintro e w1 ⟨rfl, hb1⟩
       have H1 := Lib.hid ((St.init w).ext hb1)
       have V1 := Lib.hid (HV.out.ext hb1)
       clear hb1)
    | ((with_reducible refine (HP.out w1 V1.out).mono ?_)
       rintro e w2 ⟨rfl, hb2⟩
       have H2 := Lib.hid (H1.out.ext hb2)
       clear hb2)
    | (with_reducible refine wpList_store_blk (ty := 39) (o := 0) _ (Tk.vals ⟨true, 7, false, 5⟩) (by with_unfolding_all rfl) (by with_unfolding_all rfl) (Blk.new w2 zTk 39) (by with_unfolding_all exact Nat.le_refl _) (by with_unfolding_all exact info39) (Tk.one _) (fun W3 hBW3 hoW3 => ?_)))
  have H3 : Hid (St w.heap.size w W3 (bk w2.heap.size 39 (Tk.vals ⟨true, 7, false, 5⟩) :: [])) := Lib.hid ((H2.out.alloc zTk 39).sets (L' := Tk.vals ⟨true, 7, false, 5⟩) hBW3 hoW3)
  clear hBW3 hoW3
  have c0 : W3.cell? ⟨w2.heap.size, 0, none⟩ = some (.bool true) := (Blk.box (H3.out.at 0 rfl)).cell 0
  have c1 : W3.cell? ⟨w2.heap.size, 1, none⟩ = some (.int .i64 7) := (Blk.box (H3.out.at 0 rfl)).cell 1
  have c2 : W3.cell? ⟨w2.heap.size, 2, none⟩ = some (.bool false) := (Blk.box (H3.out.at 0 rfl)).cell 2
  have c3 : W3.cell? ⟨w2.heap.size, 3, none⟩ = some (.int .i64 5) := (Blk.box (H3.out.at 0 rfl)).cell 3
  go_wp2_with fail
  go_ret
  exact ⟨rfl, H3.out.below⟩
set_option maxRecDepth 100000 in
set_option maxHeartbeats 2000000 in
theorem law_TagOnly (s : List UInt8) (hs : s.length ≤ 9223372036854775807) (w : World) (hV : Vars w) :
    Calls Tryd.prog 7 #[.string ⟨s.toArray⟩] w fun e w' => e = .returned (.bool true) ∧ Below w.heap.size w w' := by
  have HA := Lib.hid (tagged_any w hV)
  have HV := Lib.hid hV
  have Hq : Hid (∀ W, s.length ≤ 50 → Vars W → Calls Tryd.prog 27 #[.string ⟨s.toArray⟩] W fun e w' => e = .returned (tkV (Tk.ofText s)) ∧ Below W.heap.size W w') := Lib.hid (fun W hl h => tkParse_any s (by omega) W h)
  have Hb : Hid (∀ b, Tk.ofText s = some b → b.okB = true ∧ b.text = s) := Lib.hid (fun b h => tk_ofText_ok h)
  have HE0 : ∀ W, (binOp .eql 39 (.agg #[.bool false, .int .i64 0, .bool false, .int .i64 0]) (.agg #[.bool false, .int .i64 0, .bool false, .int .i64 0])).run Tryd.prog W = .ok (.bool true) W := fun W => by
    have := tk_eql ⟨false, 0, false, 0⟩ ⟨false, 0, false, 0⟩ W
    rw [decide_eq_true rfl] at this
    exact this
  have HG0 : ∀ p q W, (eqGuard .eql 39 p q (.agg #[.bool false, .int .i64 0, .bool false, .int .i64 0]) (.agg #[.bool false, .int .i64 0, .bool false, .int .i64 0])).run Tryd.prog W = .ok () W := fun p q W => tk_guard .eql ⟨false, 0, false, 0⟩ ⟨false, 0, false, 0⟩ p q W
  clear hV
  go_enter Tryd.func7, Tryd.ntmps7
  go_upto_region 3 with (first
    | ((with_reducible refine HA.out.mono ?_)
       rintro e w3 ⟨rfl, hb3⟩
       have H3 := Lib.hid ((St.init w).ext hb3)
       have V3 := Lib.hid (HV.out.ext hb3)
       clear hb3 HV))
  by_cases hl : 50 < s.length
  · have hl2 : (50 : Int) < (s.length : Int) := by omega
    go_wp2_with fail
    go_ret
    exact ⟨rfl, H3.out.below⟩
  have hq := Hq.out w3 (by omega) V3.out
  have hl2 : ¬ (50 : Int) < (s.length : Int) := by omega
  have Hl := Lib.hid hl
  clear hl Hq
  cases hO : Tk.ofText s with
  | none =>
    have hq2 : Hid (Calls Tryd.prog 27 #[.string ⟨s.toArray⟩] w3 fun e w' => e = .returned (.tuple #[.agg (Tk.vals ⟨false, 0, false, 0⟩).toArray, .iface 80 (.int .i64 3)]) ∧ Below w3.heap.size w3 w') := by
      rw [hO] at hq; exact Lib.hid hq
    clear hO hq Hb
    go_upto_region 7 with (first
      | ((with_reducible refine hq2.out.mono ?_)
         rintro e w4 ⟨rfl, hb4⟩
         have H4 := Lib.hid (H3.out.ext hb4)
         clear hb4)
      | (with_reducible refine wpList_store_blk (ty := 39) (o := 0) _ (Tk.vals ⟨false, 0, false, 0⟩) (by with_unfolding_all rfl) (by with_unfolding_all rfl) (Blk.new w4 zTk 39) (by with_unfolding_all exact Nat.le_refl _) (by with_unfolding_all exact info39) (Tk.one _) (fun W5 hBW5 hoW5 => ?_)))
    have H5 : Hid (St w.heap.size w W5 (bk w4.heap.size 39 (Tk.vals ⟨false, 0, false, 0⟩) :: [])) := Lib.hid ((H4.out.alloc zTk 39).sets (L' := Tk.vals ⟨false, 0, false, 0⟩) hBW5 hoW5)
    clear hBW5 hoW5
    have z0 : W5.cell? ⟨w4.heap.size, 0, none⟩ = some (.bool false) := (Blk.box (H5.out.at 0 rfl)).cell 0
    have z1 : W5.cell? ⟨w4.heap.size, 1, none⟩ = some (.int .i64 0) := (Blk.box (H5.out.at 0 rfl)).cell 1
    have z2 : W5.cell? ⟨w4.heap.size, 2, none⟩ = some (.bool false) := (Blk.box (H5.out.at 0 rfl)).cell 2
    have z3 : W5.cell? ⟨w4.heap.size, 3, none⟩ = some (.int .i64 0) := (Blk.box (H5.out.at 0 rfl)).cell 3
    go_wp2_with fail
    go_ret
    exact ⟨rfl, H5.out.below⟩
  | some t =>
    obtain ⟨hok, htx⟩ := Hb.out t hO
    have hq2 : Hid (Calls Tryd.prog 27 #[.string ⟨s.toArray⟩] w3 fun e w' => e = .returned (.tuple #[.agg t.vals.toArray, .nilIface]) ∧ Below w3.heap.size w3 w') := by
      rw [hO] at hq; exact Lib.hid hq
    have HT : Hid (∀ W, Vars W → Calls Tryd.prog 26 #[.agg t.vals.toArray] W fun e w' => e = .returned (.tuple #[.string ⟨s.toArray⟩, .nilIface]) ∧ Below W.heap.size W w') := Lib.hid (fun W h => by
      have := tkText_any t W h
      rw [hok, htx] at this
      exact this)
    have HR : Hid (∀ W, Calls Tryd.prog 23 #[.agg #[.bool t.s, .int .i64 t.pcp, .bool t.dei, .int .i64 t.vid]] W fun e w' => e = .returned (.bool true) ∧ Below W.heap.size W w') := Lib.hid fun W => by rw [← hok]; exact tkRight_any t W
    clear hO hq Hb htx hok HE0 HG0
    go_upto_region 8 with (first
      | ((with_reducible refine hq2.out.mono ?_)
         rintro e w4 ⟨rfl, hb4⟩
         have H4 := Lib.hid (H3.out.ext hb4)
         have V4 := Lib.hid (V3.out.ext hb4)
         clear hb4)
      | (with_reducible refine wpList_store_blk (ty := 39) (o := 0) _ t.vals (by with_unfolding_all rfl) (by with_unfolding_all rfl) (Blk.new w4 zTk 39) (by with_unfolding_all exact Nat.le_refl _) (by with_unfolding_all exact info39) (Tk.one _) (fun W5 hBW5 hoW5 => ?_)))
    have H5 : Hid (St w.heap.size w W5 (bk w4.heap.size 39 t.vals :: [])) := Lib.hid ((H4.out.alloc zTk 39).sets (L' := t.vals) hBW5 hoW5)
    have V5 : Hid (Vars W5) := Lib.hid (V4.out.ext (Only.fresh hoW5).1)
    clear hBW5 hoW5
    have R5 := Lib.hid (Blk.box (H5.out.at 0 rfl)).range
    generalize w4.heap.size = g at *
    go_upto_region 9 with (first
      | (with_reducible refine wpList_load_rng (ty := 39) t.vals (by with_unfolding_all rfl) R5.out Tryd.underlying39 (by with_unfolding_all rfl) (by with_unfolding_all exact info39) ?_)
      | ((with_reducible refine (HT.out W5 V5.out).mono ?_)
         rintro e w6 ⟨rfl, hb6⟩
         have H6 := Lib.hid (H5.out.ext hb6)
         clear hb6))
    have c0 : w6.cell? ⟨g, 0, none⟩ = some (.bool t.s) := (Blk.box (H6.out.at 0 rfl)).cell 0
    have c1 : w6.cell? ⟨g, 1, none⟩ = some (.int .i64 t.pcp) := (Blk.box (H6.out.at 0 rfl)).cell 1
    have c2 : w6.cell? ⟨g, 2, none⟩ = some (.bool t.dei) := (Blk.box (H6.out.at 0 rfl)).cell 2
    have c3 : w6.cell? ⟨g, 3, none⟩ = some (.int .i64 t.vid) := (Blk.box (H6.out.at 0 rfl)).cell 3
    go_wp2_with (first
      | ((with_reducible refine (HR.out _).mono ?_)
         rintro e w7 ⟨rfl, hb7⟩
         have H7 := Lib.hid (H6.out.ext hb7)
         clear hb7))
    go_ret
    exact ⟨rfl, H7.out.below⟩
end Go.Proofs.YtkicbabfgahmkaaDoor

/- The fact of what both sides know. -/
import Derived.Test.YteibhcocldihbaaDoorLacp7
namespace Go.Proofs.YteibhcocldihbaaDoor
open Go.RowKit
theorem wpList_buildAG {P : Program} {ops : Array Oper} {rest : List Oper} {d : Tmp} {t : TypeId} {parts : Array (Nat × Operand)} {t' : TypeId} {pos : String} {after : Array Edge} {gd : Option (Nat × Bool)} {a : Act} {w : World} {Q : Exit → Act → World → Prop} (vs : List (Nat × Value)) (cells : List Value)
    (hg : Region.wanted ⟨some d, .build t parts, t', pos, after, gd⟩ (yielded ops a.tmps) = true) (hv : (parts.map fun (i, x) => (i, a.eval x)).toList = vs) (hc : P.built t vs = some cells.toArray) (h : wpList P ops Q rest (a.put (some d) (.agg cells.toArray)) w) :
    wpList P ops Q (⟨some d, .build t parts, t', pos, after, gd⟩ :: rest) a w :=
  wpList_step fun K hK => by
    rw [if_pos hg]
    refine wp_build t parts rfl (by rw [hv, hc]; rfl) ?_
    rw [hv, hc]
    exact hK _ _ h
def p1 : Pty := ⟨1, ⟨0, 0, 0, 0, 0, 0⟩, 0, 0, 0, 61⟩
def p2 : Pty := ⟨0, ⟨0, 0, 0, 0, 0, 0⟩, 2, 0, 0, 0⟩
def l0 : Lac := ⟨p1, p2, 3⟩
def m0 : Mk := ⟨false, 1, ⟨0, 0, 0, 0, 0, 0⟩, 9⟩
theorem p1_built : Tryd.prog.built 83 [(0, .int .i64 1), (5, .int .i64 61)] = some p1.vals.toArray := by kernel_rfl
theorem p2_built : Tryd.prog.built 83 [(2, .int .i64 2)] = some p2.vals.toArray := by kernel_rfl
theorem l0_built : Tryd.prog.built 85 [(0, .agg p1.vals.toArray), (1, .agg p2.vals.toArray), (2, .int .i64 3)] = some l0.vals.toArray := by kernel_rfl
theorem m0_built : Tryd.prog.built 25 [(1, .int .i64 1), (3, .int .i64 9)] = some m0.vals.toArray := by kernel_rfl
theorem lacWrite_ok (l : Lac) (h : l.okB = true) (w : World) :
    Calls Tryd.prog 41 #[.agg l.vals.toArray] w fun e w' => e = .returned (.tuple #[.string ⟨l.bytes.toArray⟩, .nilIface]) ∧ Below w.heap.size w w' := by
  refine (lacWrite_any l w).mono ?_
  rintro e w1 ⟨rfl, hb⟩
  exact ⟨by unfold lacOut; rw [if_pos h], hb⟩
theorem lacWrite_no (l : Lac) (h : l.okB = false) (w : World) :
    Calls Tryd.prog 41 #[.agg l.vals.toArray] w fun e w' => e = .returned (.tuple #[.string ⟨#[]⟩, erV 1]) ∧ Below w.heap.size w w' := by
  refine (lacWrite_any l w).mono ?_
  rintro e w1 ⟨rfl, hb⟩
  exact ⟨by unfold lacOut; rw [if_neg (by rw [h]; exact Bool.false_ne_true)], hb⟩
theorem lacRead_free (l : Lac) (h : l.okB = true) (f1 f2 f3 f4 : List UInt8) (h1 : f1.length = 3) (h2 : f2.length = 3) (h3 : f3.length = 12) (h4 : f4.length = 50) (w : World) :
    Calls Tryd.prog 42 #[.string ⟨(l.bytesF f1 f2 f3 f4).toArray⟩] w fun e w' => e = .returned (.tuple #[.agg l.vals.toArray, .nilIface]) ∧ Below w.heap.size w w' := by
  have hlen : (l.bytesF f1 f2 f3 f4).length = 110 := by simp [Lac.bytesF, sideC_len, beBytes_len, h1, h2, h3, h4]
  refine (lacRead_any _ (by omega) w).mono ?_
  rintro e w1 ⟨b, g, rfl, hS⟩
  obtain ⟨R, hR, _⟩ := readLac_left l f1 f2 f3 f4 h h1 h2 h3 h4
  exact ⟨by unfold lacGot; rw [hR]; rfl, hS.below⟩
theorem lacRead_ok (l : Lac) (h : l.okB = true) (w : World) :
    Calls Tryd.prog 42 #[.string ⟨l.bytes.toArray⟩] w fun e w' => e = .returned (.tuple #[.agg l.vals.toArray, .nilIface]) ∧ Below w.heap.size w w' := by
  rw [Lac.bytes_eq]
  exact lacRead_free l h _ _ _ _ rfl rfl (by simp) (by simp) w
theorem mkWrite_ok (m : Mk) (h : m.okB = true) (w : World) :
    Calls Tryd.prog 14 #[.agg m.vals.toArray] w fun e w' => e = .returned (.tuple #[.string ⟨m.bytes.toArray⟩, .nilIface]) ∧ Below w.heap.size w w' := by
  refine (mkWrite_any m w).mono ?_
  rintro e w1 ⟨rfl, hb⟩
  exact ⟨by unfold mkOut; rw [if_pos h], hb⟩
theorem mkRead_ok (m : Mk) (h : m.okB = true) (w : World) :
    Calls Tryd.prog 17 #[.string ⟨m.bytes.toArray⟩] w fun e w' => e = .returned (.tuple #[.agg m.vals.toArray, .nilIface]) ∧ Below w.heap.size w w' := by
  refine (mkRead_any _ (by rw [Mk.bytes_len]; decide) w).mono ?_
  rintro e w1 ⟨b, g, rfl, hS⟩
  obtain ⟨R, hR, _⟩ := readMk_bytes m h
  exact ⟨by unfold mkGot; rw [hR]; rfl, hS.below⟩
set_option maxRecDepth 100000 in
set_option maxHeartbeats 2000000 in
theorem linked_any (w : World) : Calls Tryd.prog 13 #[] w fun e w' => e = .returned (.bool true) ∧ Below w.heap.size w w' := by
  have hl0 : l0.okB = true := by decide
  have hm0 : m0.okB = true := by decide
  have b1 : ((l0.bytes.length : Int) == 110) = true := by rw [Lac.bytes_len]; rfl
  have b2 : ((m0.bytes.length : Int) == 110) = true := by rw [Mk.bytes_len]; rfl
  have HW := Lib.hid (lacWrite_ok l0 hl0)
  have HR := Lib.hid (lacRead_ok l0 hl0)
  have HV := Lib.hid (mkWrite_ok m0 hm0)
  have HQ := Lib.hid (mkRead_ok m0 hm0)
  have EL := lac_eq l0
  have GL := fun p q => lac_guard l0 p q
  have EM := mk_eq m0
  have GM := fun p q => mk_guard m0 p q
  have HL1 := Lib.hid (Lac.one l0)
  have HM1 := Lib.hid (Mk.one m0)
  have PB1 := Lib.hid p1_built
  have PB2 := Lib.hid p2_built
  have PB3 := Lib.hid l0_built
  have PB4 := Lib.hid m0_built
  generalize l0.bytes = SL at *
  generalize m0.bytes = SM at *
  generalize l0 = L at *
  generalize m0 = M at *
  generalize p1 = P1 at *
  generalize p2 = P2 at *
  clear hl0 hm0
  go_enter Tryd.func13, Tryd.ntmps13
  go_upto_region 2 with (first
    | (with_reducible refine wpList_buildA (t := 83) [(0, .int .i64 1), (5, .int .i64 61)] P1.vals (by with_unfolding_all rfl) PB1.out ?_)
    | (with_reducible refine wpList_buildA (t := 83) [(2, .int .i64 2)] P2.vals (by with_unfolding_all rfl) PB2.out ?_)
    | (with_reducible refine wpList_buildA (t := 85) [(0, .agg P1.vals.toArray), (1, .agg P2.vals.toArray), (2, .int .i64 3)] L.vals (by with_unfolding_all rfl) PB3.out ?_)
    | (with_reducible refine wpList_store_blk (ty := 85) (o := 0) _ L.vals (by with_unfolding_all rfl) (by with_unfolding_all rfl) (Blk.new w zLac 85) (by with_unfolding_all exact Nat.le_refl _) (by with_unfolding_all exact info85) HL1.out (fun W1 hBW1 hoW1 => ?_)))
  have H1 : Hid (St w.heap.size w W1 [bk w.heap.size 85 L.vals]) := Lib.hid (((St.init w).alloc zLac 85).sets (L' := L.vals) hBW1 hoW1)
  clear hBW1 hoW1
  go_upto_region 3 with (first
    | (with_reducible refine wpList_load_rng (ty := 85) L.vals (by with_unfolding_all rfl) (Blk.box (H1.out.at 0 rfl)).range Tryd.underlying85 (by with_unfolding_all rfl) (by with_unfolding_all exact info85) ?_)
    | ((with_reducible refine (HW.out _).mono ?_)
       rintro e w2 ⟨rfl, hb2⟩
       have H2 := Lib.hid (H1.out.ext hb2)
       clear hb2))
  go_upto_region 4 with (first
    | ((with_reducible refine (HR.out _).mono ?_)
       rintro e w3 ⟨rfl, hb3⟩
       have H3 := Lib.hid (H2.out.ext hb3)
       clear hb3)
    | (with_reducible refine wpList_store_blk (ty := 85) (o := 0) _ L.vals (by with_unfolding_all rfl) (by with_unfolding_all rfl) (Blk.new w3 zLac 85) (by with_unfolding_all exact Nat.le_refl _) (by with_unfolding_all exact info85) HL1.out (fun W4 hBW4 hoW4 => ?_)))
  have H4 : Hid (St w.heap.size w W4 [bk w3.heap.size 85 L.vals, bk w.heap.size 85 L.vals]) := Lib.hid ((H3.out.alloc zLac 85).sets (L' := L.vals) hBW4 hoW4)
  clear hBW4 hoW4 H3 H2 H1
  generalize hP : w3.heap.size = P at *
  clear hP
  go_upto_region 5 with (first
    | (with_reducible refine wpList_buildA (t := 25) [(1, .int .i64 1), (3, .int .i64 9)] M.vals (by with_unfolding_all rfl) PB4.out ?_)
    | ((with_reducible refine (HV.out _).mono ?_)
       rintro e w5 ⟨rfl, hb5⟩
       have H5 := Lib.hid (H4.out.ext hb5)
       clear hb5))
  go_upto_region 6 with (first
    | ((with_reducible refine (HQ.out _).mono ?_)
       rintro e w6 ⟨rfl, hb6⟩
       have H6 := Lib.hid (H5.out.ext hb6)
       clear hb6)
    | (with_reducible refine wpList_store_blk (ty := 25) (o := 0) _ M.vals (by with_unfolding_all rfl) (by with_unfolding_all rfl) (Blk.new w6 zMk 25) (by with_unfolding_all exact Nat.le_refl _) (by with_unfolding_all exact info25) HM1.out (fun W7 hBW7 hoW7 => ?_)))
  have H7 : Hid (St w.heap.size w W7 [bk w6.heap.size 25 M.vals, bk P 85 L.vals, bk w.heap.size 85 L.vals]) := Lib.hid ((H6.out.alloc zMk 25).sets (L' := M.vals) hBW7 hoW7)
  clear hBW7 hoW7 H6 H5 H4
  generalize hQ : w6.heap.size = Q at *
  clear hQ
  go_wp2_with (first
    | (with_reducible refine wpList_load_rngG (ty := 85) L.vals (by with_unfolding_all rfl) (by with_unfolding_all rfl) (Blk.box (H7.out.at 1 rfl)).range Tryd.underlying85 (by with_unfolding_all rfl) (by with_unfolding_all exact info85) ?_)
    | (with_reducible refine wpList_load_rngG (ty := 85) L.vals (by with_unfolding_all rfl) (by with_unfolding_all rfl) (Blk.box (H7.out.at 2 rfl)).range Tryd.underlying85 (by with_unfolding_all rfl) (by with_unfolding_all exact info85) ?_)
    | (with_reducible refine wpList_load_rngG (ty := 25) M.vals (by with_unfolding_all rfl) (by with_unfolding_all rfl) (Blk.box (H7.out.at 0 rfl)).range Tryd.underlying25 (by with_unfolding_all rfl) (by with_unfolding_all exact info25) ?_)
    | (with_reducible refine wpList_buildAG (t := 25) [(1, .int .i64 1), (3, .int .i64 9)] M.vals (by with_unfolding_all rfl) (by with_unfolding_all rfl) PB4.out ?_))
  go_ret
  exact ⟨rfl, H7.out.below⟩
end Go.Proofs.YteibhcocldihbaaDoor

/- arp.Reply; the fact of an Arp. -/
import Derived.Test.YtidcjbanhdpkkaaDoorAr2
namespace Go.Proofs.YtidcjbanhdpkkaaDoor
open Go.RowKit
theorem arWrite_no (x : Ar) (hx : x.okB = false) (w : World) :
    Calls Tryd.prog 18 #[.agg x.vals.toArray] w fun e w' => e = .returned (.tuple #[.string ⟨#[]⟩, erV 1]) ∧ Below w.heap.size w w' := by
  have HK := Lib.hid hx
  clear hx
  have HB := Lib.hid (Box.new w x.vals 26)
  have hb0 : Below w.heap.size w (w.alloc (.cells x.vals.toArray 26)) := (Below.refl _ _).alloc (Nat.le_refl _) _
  go_enter Tryd.func18, Tryd.ntmps18
  go_upto_region 1 with (fail)
  generalize World.alloc _ _ = W0 at *
  go_wp2_with (first
    | (with_reducible refine wpList_load_rng (ty := 26) (Ar.vals _) (by with_unfolding_all rfl) HB.out.range Tryd.underlying26 (by with_unfolding_all rfl) (by with_unfolding_all exact info26) ?_)
    | ((with_reducible refine (arRight_any _ W0).mono ?_)
       rintro e w1 ⟨rfl, hb1⟩
       rw [HK.out]))
  go_ret2
  exact ⟨rfl, hb0.trans (hb1.mono hb0.size)⟩
theorem arRead_pad (x : Ar) (pad : List UInt8) (hx : x.okB = true) (hz : ∀ c ∈ pad, c = 0) (hl : pad.length ≤ 1000000) (w : World) :
    Calls Tryd.prog 19 #[.string ⟨(x.bytes ++ pad).toArray⟩] w fun e w' => e = .returned (.tuple #[.agg x.vals.toArray, .nilIface]) ∧ Below w.heap.size w w' := by
  refine (arRead_any _ (by rw [List.length_append, Ar.bytes_len]; omega) w).mono ?_
  rintro e w1 ⟨b, g, rfl, hS⟩
  obtain ⟨R, hR, _⟩ := readAr_bytes x pad hx hz hl
  exact ⟨by unfold arGot; rw [hR]; rfl, hS.below⟩
theorem qd_self (x : Qd) (d : Nat) (W : World) : (Op.equalIn (d + 1 + 1) 24 (.agg x.vals.toArray) (.agg x.vals.toArray)).run Tryd.prog W = .ok true W := by
  have u5 := Tryd.underlying5
  have a5 := Tryd.isAgg5
  have z5 := Tryd.sizeOf5
  obtain ⟨a, b, c, e⟩ := x
  rw [run_equalIn_array W (d + 1) 4 1 _ 5 _ _ Tryd.underlying24 z5]
  simp only [Qd.vals, show List.range' 0 4 = [0, 1, 2, 3] from rfl]
  go_simp
set_option maxRecDepth 100000 in
set_option maxHeartbeats 1000000 in
theorem ar_self (x : Ar) (d : Nat) (W : World) : (Op.equalIn (d + 1 + 1 + 1) 26 (.agg x.vals.toArray) (.agg x.vals.toArray)).run Tryd.prog W = .ok true W := by
  have u3 := Tryd.underlying3
  have a3 := Tryd.isAgg3
  have z3 := Tryd.sizeOf3
  have a27 := Tryd.isAgg23
  have z27 := Tryd.sizeOf23
  have a28 := Tryd.isAgg24
  have z28 := Tryd.sizeOf24
  have hS : Tryd.prog.underlying 26 = some (.struct (Tryd.prog.fieldsOf 26)) := by kernel_rfl
  have hp : Tryd.prog.stoodInHeld 26 = false := by kernel_rfl
  obtain ⟨op, sha, tha, spa, tpa⟩ := x
  have h1 : (Op.equalIn (d + 2) 23 (.agg sha.vals.toArray) (.agg sha.vals.toArray)).run Tryd.prog W = .ok true W := ad_self sha d W
  have h2 : (Op.equalIn (d + 2) 23 (.agg tha.vals.toArray) (.agg tha.vals.toArray)).run Tryd.prog W = .ok true W := ad_self tha d W
  have h3 : (Op.equalIn (d + 2) 24 (.agg spa.vals.toArray) (.agg spa.vals.toArray)).run Tryd.prog W = .ok true W := qd_self spa d W
  have h4 : (Op.equalIn (d + 2) 24 (.agg tpa.vals.toArray) (.agg tpa.vals.toArray)).run Tryd.prog W = .ok true W := qd_self tpa d W
  obtain ⟨x1, x2, x3, x4, x5, x6⟩ := sha
  obtain ⟨y1, y2, y3, y4, y5, y6⟩ := tha
  obtain ⟨p1, p2, p3, p4⟩ := spa
  obtain ⟨q1, q2, q3, q4⟩ := tpa
  simp only [Ad.vals, Qd.vals] at h1 h2 h3 h4
  simp only [Ar.vals, Ad.vals, Qd.vals, List.cons_append, List.nil_append]
  rw [run_equalIn_agg W (d + 1 + 1) 26 _ _ hS hp]
  simp only [Program.fieldsOf, Tryd.underlying26]
  go_simp
theorem ar_eq (x : Ar) (W : World) : (binOp .eql 26 (.agg x.vals.toArray) (.agg x.vals.toArray)).run Tryd.prog W = .ok (.bool true) W := by
  rw [run_eql_struct, show (10000 : Nat) = 9997 + 1 + 1 + 1 from rfl, ar_self]; rfl
theorem ar_neq (x : Ar) (W : World) : (binOp .neq 26 (.agg x.vals.toArray) (.agg x.vals.toArray)).run Tryd.prog W = .ok (.bool false) W := by
  rw [run_neq_struct, show (10000 : Nat) = 9997 + 1 + 1 + 1 from rfl, ar_self]; rfl
theorem ar_guard (op : BinOp) (x : Ar) (p q : Operand) (W : World) : (eqGuard op 26 p q (.agg x.vals.toArray) (.agg x.vals.toArray)).run Tryd.prog W = .ok () W := run_eqGuard_agg W op _ p q _ _ (by kernel_rfl)
def a0 : Ar := ⟨1, ⟨2, 0, 0, 0, 0, 0⟩, Ad.of [], ⟨10, 0, 0, 0⟩, ⟨11, 0, 0, 0⟩⟩
def a1 : Ad := ⟨2, 0, 0, 0, 0, 0⟩
def a2 : Qd := ⟨10, 0, 0, 0⟩
def a3 : Qd := ⟨11, 0, 0, 0⟩
theorem a1_built : Tryd.prog.built 23 [(0, .int .u8 2)] = some a1.vals.toArray := by kernel_rfl
theorem a2_built : Tryd.prog.built 24 [(0, .int .u8 10)] = some a2.vals.toArray := by kernel_rfl
theorem a3_built : Tryd.prog.built 24 [(0, .int .u8 11)] = some a3.vals.toArray := by kernel_rfl
theorem a0_built : Tryd.prog.built 26 [(0, .int .i64 1), (1, .agg a1.vals.toArray), (3, .agg a2.vals.toArray), (4, .agg a3.vals.toArray)] = some a0.vals.toArray := by kernel_rfl
set_option maxRecDepth 100000 in
set_option maxHeartbeats 2000000 in
theorem asked_any (w : World) : Calls Tryd.prog 9 #[] w fun e w' => e = .returned (.bool true) ∧ Below w.heap.size w w' := by
  have ha : a0.okB = true := by decide
  have b1 : ((a0.bytes.length : Int) == 28) = true := by rw [Ar.bytes_len]; rfl
  have hle : a0.bytes.length ≤ 28 := Nat.le_of_eq (Ar.bytes_len _)
  have HW := Lib.hid (arWrite_ok a0 ha)
  have HR := Lib.hid (arRead_pad a0 [0] ha (by simp) (by decide))
  have EL := ar_eq a0
  have GL := fun p q => ar_guard .eql a0 p q
  have HL1 := Lib.hid (Ar.one a0)
  have PB1 := Lib.hid a1_built
  have PB2 := Lib.hid a2_built
  have PB3 := Lib.hid a3_built
  have PB4 := Lib.hid a0_built
  generalize a0.bytes = S at *
  generalize a0 = L at *
  generalize a1 = P1 at *
  generalize a2 = P2 at *
  generalize a3 = P3 at *
  clear ha
  go_enter Tryd.func9, Tryd.ntmps9
  go_upto_region 2 with (first
    | (with_reducible refine wpList_buildA (t := 23) [(0, .int .u8 2)] P1.vals (by with_unfolding_all rfl) PB1.out ?_)
    | (with_reducible refine wpList_buildA (t := 24) [(0, .int .u8 10)] P2.vals (by with_unfolding_all rfl) PB2.out ?_)
    | (with_reducible refine wpList_buildA (t := 24) [(0, .int .u8 11)] P3.vals (by with_unfolding_all rfl) PB3.out ?_)
    | (with_reducible refine wpList_buildA (t := 26) [(0, .int .i64 1), (1, .agg P1.vals.toArray), (3, .agg P2.vals.toArray), (4, .agg P3.vals.toArray)] L.vals (by with_unfolding_all rfl) PB4.out ?_)
    | (with_reducible refine wpList_store_blk (ty := 26) (o := 0) _ L.vals (by with_unfolding_all rfl) (by with_unfolding_all rfl) (Blk.new w zAr 26) (by with_unfolding_all exact Nat.le_refl _) (by with_unfolding_all exact info26) HL1.out (fun W1 hBW1 hoW1 => ?_)))
  have H1 : Hid (St w.heap.size w W1 [bk w.heap.size 26 L.vals]) := Lib.hid (((St.init w).alloc zAr 26).sets (L' := L.vals) hBW1 hoW1)
  clear hBW1 hoW1
  go_upto_region 3 with (first
    | (with_reducible refine wpList_load_rng (ty := 26) L.vals (by with_unfolding_all rfl) (Blk.box (H1.out.at 0 rfl)).range Tryd.underlying26 (by with_unfolding_all rfl) (by with_unfolding_all exact info26) ?_)
    | ((with_reducible refine (HW.out _).mono ?_)
       rintro e w2 ⟨rfl, hb2⟩
       have H2 := Lib.hid (H1.out.ext hb2)
       clear hb2))
  go_upto_region 4 with (first
    | ((with_reducible refine (HR.out _).mono ?_)
       rintro e w3 ⟨rfl, hb3⟩
       have H3 := Lib.hid (H2.out.ext hb3)
       clear hb3)
    | (with_reducible refine wpList_store_blk (ty := 26) (o := 0) _ L.vals (by with_unfolding_all rfl) (by with_unfolding_all rfl) (Blk.new w3 zAr 26) (by with_unfolding_all exact Nat.le_refl _) (by with_unfolding_all exact info26) HL1.out (fun W4 hBW4 hoW4 => ?_)))
  have H4 : Hid (St w.heap.size w W4 [bk w3.heap.size 26 L.vals, bk w.heap.size 26 L.vals]) := Lib.hid ((H3.out.alloc zAr 26).sets (L' := L.vals) hBW4 hoW4)
  clear hBW4 hoW4 H3 H2 H1
  generalize w3.heap.size = P at *
  go_wp2_with (first
    | (with_reducible refine wpList_load_rngG (ty := 26) L.vals (by with_unfolding_all rfl) (by with_unfolding_all rfl) (Blk.box (H4.out.at 1 rfl)).range Tryd.underlying26 (by with_unfolding_all rfl) (by with_unfolding_all exact info26) ?_)
    | (with_reducible refine wpList_load_rngG (ty := 26) L.vals (by with_unfolding_all rfl) (by with_unfolding_all rfl) (Blk.box (H4.out.at 0 rfl)).range Tryd.underlying26 (by with_unfolding_all rfl) (by with_unfolding_all exact info26) ?_))
  go_ret
  exact ⟨rfl, H4.out.below⟩
/-- Who answers. -/
def Ar.ans (a : Ar) (m : Ad) : Ar := ⟨2, m, a.sha, a.tpa, a.spa⟩
theorem ans_built (a : Ar) (m : Ad) : Tryd.prog.built 26 [(0, .int .i64 2), (1, .agg m.vals.toArray), (3, .agg a.tpa.vals.toArray), (2, .agg a.sha.vals.toArray), (4, .agg a.spa.vals.toArray)] = some (a.ans m).vals.toArray := by
  obtain ⟨op, ⟨x1, x2, x3, x4, x5, x6⟩, ⟨y1, y2, y3, y4, y5, y6⟩, ⟨p1, p2, p3, p4⟩, ⟨q1, q2, q3, q4⟩⟩ := a
  obtain ⟨m1, m2, m3, m4, m5, m6⟩ := m
  kernel_rfl
def replyOut (a : Ar) (m : Ad) : Value := if a.op = 1 then .tuple #[.agg (a.ans m).vals.toArray, .nilIface] else .tuple #[.agg z0.vals.toArray, erV 6]
set_option maxRecDepth 100000 in
set_option maxHeartbeats 2000000 in
theorem reply_any (a : Ar) (m : Ad) (w : World) :
    Calls Tryd.prog 11 #[.agg a.vals.toArray, .agg m.vals.toArray] w fun e w' => e = .returned (replyOut a m) ∧ Below w.heap.size w w' := by
  have H1 := Lib.hid (((St.init w).alloc2 a.vals m.vals 26 23).alloc zAr 26)
  by_cases h1 : a.op = 1
  · have hb : (a.op != 1) = false := by simp [h1]
    have Hr : Hid (replyOut a m = .tuple #[.agg (a.ans m).vals.toArray, .nilIface]) := Lib.hid (by unfold replyOut; rw [if_pos h1])
    clear h1
    go_enter Tryd.func11, Tryd.ntmps11
    go_upto_region 1 with (fail)
    have hsz : ((w.alloc (.cells a.vals.toArray 26)).alloc (.cells m.vals.toArray 23)).heap.size = w.heap.size + 1 + 1 := by simp
    rw [hsz] at H1
    clear hsz
    unfold zAr at H1
    generalize World.alloc _ _ = w1 at *
    have H1 : Hid (St w.heap.size w w1 [bk (w.heap.size + 1 + 1) 26 z0.vals, bk (w.heap.size + 1) 23 m.vals, bk w.heap.size 26 a.vals]) := H1
    obtain ⟨c0, r1, r2, r3, r4⟩ := ar_rng (Blk.box (H1.out.at 2 rfl))
    have R1 := Lib.hid r1; have R3 := Lib.hid r3; have R4 := Lib.hid r4
    clear r1 r2 r3 r4
    go_wp2_with (first
      | (with_reducible refine wpList_load_rng (ty := 23) m.vals (by with_unfolding_all rfl) (Blk.box (H1.out.at 1 rfl)).range Tryd.underlying23 (by with_unfolding_all rfl) (by with_unfolding_all exact info23) ?_)
      | (with_reducible refine wpList_load_rng (ty := 23) a.sha.vals (by with_unfolding_all rfl) R1.out Tryd.underlying23 (by with_unfolding_all rfl) (by with_unfolding_all exact info23) ?_)
      | (with_reducible refine wpList_load_rng (ty := 24) a.spa.vals (by with_unfolding_all rfl) R3.out Tryd.underlying24 (by with_unfolding_all rfl) (by with_unfolding_all exact info24) ?_)
      | (with_reducible refine wpList_load_rng (ty := 24) a.tpa.vals (by with_unfolding_all rfl) R4.out Tryd.underlying24 (by with_unfolding_all rfl) (by with_unfolding_all exact info24) ?_)
      | (with_reducible refine wpList_buildA (t := 26) [(0, .int .i64 2), (1, .agg m.vals.toArray), (3, .agg a.tpa.vals.toArray), (2, .agg a.sha.vals.toArray), (4, .agg a.spa.vals.toArray)] (a.ans m).vals (by with_unfolding_all rfl) (ans_built a m) ?_)
      | (with_reducible refine wpList_store_blk (ty := 26) (o := 0) _ (a.ans m).vals (by with_unfolding_all rfl) (by with_unfolding_all rfl) (H1.out.at 0 rfl) (by with_unfolding_all exact Nat.le_refl _) (by with_unfolding_all exact info26) (Ar.one _) (fun W2 hBW2 hoW2 => ?_)))
    have h2 := H1.out.sets (L' := (a.ans m).vals) hBW2 hoW2
    exact ret_cell2 (cs := (a.ans m).vals) Tryd.results11 (by rfl) (by rfl) (Blk.box h2.head).range Tryd.underlying26 rfl info26 rfl ⟨by rw [Hr.out]; rfl, h2.below⟩
  · have hb : (a.op != 1) = true := by simp [h1]
    have Hr : Hid (replyOut a m = .tuple #[.agg z0.vals.toArray, erV 6]) := Lib.hid (by unfold replyOut; rw [if_neg h1])
    clear h1
    go_enter Tryd.func11, Tryd.ntmps11
    go_upto_region 1 with (fail)
    have hsz : ((w.alloc (.cells a.vals.toArray 26)).alloc (.cells m.vals.toArray 23)).heap.size = w.heap.size + 1 + 1 := by simp
    rw [hsz] at H1
    clear hsz
    unfold zAr at H1
    generalize World.alloc _ _ = w1 at *
    have H1 : Hid (St w.heap.size w w1 [bk (w.heap.size + 1 + 1) 26 z0.vals, bk (w.heap.size + 1) 23 m.vals, bk w.heap.size 26 a.vals]) := H1
    have c0 := (ar_rng (Blk.box (H1.out.at 2 rfl))).1
    go_wp2_with (first
      | (with_reducible refine wpList_buildA (t := 26) [] z0.vals (by with_unfolding_all rfl) ar_zero ?_)
      | (with_reducible refine wpList_store_blk (ty := 26) (o := 0) _ z0.vals (by with_unfolding_all rfl) (by with_unfolding_all rfl) (H1.out.at 0 rfl) (by with_unfolding_all exact Nat.le_refl _) (by with_unfolding_all exact info26) (Ar.one _) (fun W2 hBW2 hoW2 => ?_)))
    have h2 := H1.out.sets (L' := z0.vals) hBW2 hoW2
    exact ret_cell2 (cs := z0.vals) Tryd.results11 (by rfl) (by rfl) (Blk.box h2.head).range Tryd.underlying26 rfl info26 rfl ⟨by rw [Hr.out]; rfl, h2.below⟩
end Go.Proofs.YtidcjbanhdpkkaaDoor

/- lacp.Answer; MarkerBack. -/
import Derived.Test.YteibhcocldihbaaDoorLacp8
import Derived.Test.YteibhcocldihbaaDoorLacp9
import Derived.Test.YteibhcocldihbaaDoorTell2
import Derived.Test.YteibhcocldihbaaDoorErrVar
namespace Go.Proofs.YteibhcocldihbaaDoor
open Go.RowKit
def Mk.answer (m : Mk) : Mk := { m with reply := true }
theorem mk_neq (m : Mk) (W : World) : (binOp .neq 25 (.agg m.vals.toArray) (.agg m.vals.toArray)).run Tryd.prog W = .ok (.bool false) W := by
  rw [run_neq_struct, show (10000 : Nat) = 9997 + 1 + 1 + 1 from rfl, mk_self]; rfl
theorem mk_guardn (m : Mk) (p q : Operand) (W : World) : (eqGuard .neq 25 p q (.agg m.vals.toArray) (.agg m.vals.toArray)).run Tryd.prog W = .ok () W := run_eqGuard_agg W .neq _ p q _ _ (by kernel_rfl)
theorem mkWrite_no (m : Mk) (h : m.okB = false) (w : World) :
    Calls Tryd.prog 14 #[.agg m.vals.toArray] w fun e w' => e = .returned (.tuple #[.string ⟨#[]⟩, .iface 32 (.int .i64 1)]) ∧ Below w.heap.size w w' := by
  refine (mkWrite_any m w).mono ?_
  rintro e w1 ⟨rfl, hb⟩
  exact ⟨by unfold mkOut; rw [if_neg (by rw [h]; decide)]; rfl, hb⟩
set_option maxRecDepth 100000 in
set_option maxHeartbeats 2000000 in
theorem answer_no (m : Mk) (h : m.reply = true) (w : World) :
    Calls Tryd.prog 18 #[.agg m.vals.toArray] w fun e w' => e = .returned (.tuple #[.agg zMk.toArray, .iface 32 (.int .i64 6)]) ∧ Below w.heap.size w w' := by
  have H0 := Lib.hid (((St.init w).alloc2 m.vals zMk 25 25))
  go_enter Tryd.func18, Tryd.ntmps18
  go_upto_region 1 with (fail)
  unfold zMk at H0
  generalize World.alloc _ _ = W0 at *
  have H0 : Hid (St w.heap.size w W0 (bk (w.heap.size + 1) 25 zMk :: bk w.heap.size 25 m.vals :: [])) := H0
  have c0 : W0.cell? ⟨w.heap.size, 0, none⟩ = some (.bool true) := by
    have := (H0.out.pull 1 rfl).cell 0
    rw [show m.vals.toArray[0]? = some (.bool m.reply) from rfl, h] at this; exact this
  have B0 := Lib.hid (H0.out.at 0 rfl)
  go_wp2_with (first
    | (with_reducible refine wpList_buildA (t := 25) [] zMk (by with_unfolding_all rfl) mk_zero ?_)
    | (with_reducible refine wpList_store_blk (ty := 25) (o := 0) _ zMk (by with_unfolding_all rfl) (by with_unfolding_all rfl) B0.out (by with_unfolding_all exact Nat.le_refl _) (by with_unfolding_all exact info25) zMk_one (fun W1 hBW1 hoW1 => ?_)))
  have h1 := H0.out.sets (L' := zMk) hBW1 hoW1
  exact ret_cell2 (cs := zMk) Tryd.results18 (by rfl) (by rfl) (Blk.box h1.head).range Tryd.underlying25 rfl info25 rfl ⟨rfl, h1.below⟩
set_option maxRecDepth 100000 in
set_option maxHeartbeats 2000000 in
theorem answer_yes (m : Mk) (h : m.reply = false) (w : World) :
    Calls Tryd.prog 18 #[.agg m.vals.toArray] w fun e w' => e = .returned (.tuple #[.agg m.answer.vals.toArray, .nilIface]) ∧ Below w.heap.size w w' := by
  have H0 := Lib.hid (((St.init w).alloc2 m.vals zMk 25 25))
  go_enter Tryd.func18, Tryd.ntmps18
  go_upto_region 1 with (fail)
  unfold zMk at H0
  generalize World.alloc _ _ = W0 at *
  have H0 : Hid (St w.heap.size w W0 (bk (w.heap.size + 1) 25 zMk :: bk w.heap.size 25 m.vals :: [])) := H0
  have c0 : W0.cell? ⟨w.heap.size, 0, none⟩ = some (.bool false) := by
    have := (H0.out.pull 1 rfl).cell 0
    rw [show m.vals.toArray[0]? = some (.bool m.reply) from rfl, h] at this; exact this
  have z0 := (H0.out.pull 1 rfl).frozen 0
  go_upto_region 4 with (fail)
  have H1 : Hid (St w.heap.size w _ (bk w.heap.size 25 m.answer.vals :: bk (w.heap.size + 1) 25 zMk :: [])) := Lib.hid ((H0.out.pull 1 rfl).set 0 (.bool true) (by rw [Mk.len]; decide))
  clear c0 z0 H0
  generalize World.setCell _ _ _ = W1 at *
  have B1 := Lib.hid (H1.out.at 1 rfl)
  have R1 := Lib.hid (Blk.box (H1.out.at 0 rfl)).range
  go_wp2_with (first
    | (with_reducible refine wpList_load_rng (ty := 25) m.answer.vals (by with_unfolding_all rfl) R1.out Tryd.underlying25 (by with_unfolding_all rfl) (by with_unfolding_all exact info25) ?_)
    | (with_reducible refine wpList_store_blk (ty := 25) (o := 0) _ m.answer.vals (by with_unfolding_all rfl) (by with_unfolding_all rfl) B1.out (by with_unfolding_all exact Nat.le_refl _) (by with_unfolding_all exact info25) (Mk.one _) (fun W2 hBW2 hoW2 => ?_)))
  have h2 := (H1.out.pull 1 rfl).sets (L' := m.answer.vals) hBW2 hoW2
  exact ret_cell2 (cs := m.answer.vals) Tryd.results18 (by rfl) (by rfl) (Blk.box h2.head).range Tryd.underlying25 rfl info25 rfl ⟨rfl, h2.below⟩
set_option maxRecDepth 100000 in
theorem mk_types : Tryd.prog.cellTypes Tryd.prog.depth 25 = some [4, 3, 5, 5, 5, 5, 5, 5, 3] := by kernel_rfl
theorem mk_struct : ∃ fs, Tryd.prog.underlying 25 = some (.struct fs) := ⟨_, Tryd.underlying25⟩
set_option maxRecDepth 100000 in
set_option maxHeartbeats 1000000 in
theorem open_mk {H : Type} {enc : TypeId × Value → H} {w : World} {r : Reach} {base : Nat} {b0 : Nat} {sp : Nat → Bool} {hd : Bool} {v : Value} {d : DataW H} {ps : List MemPlace}
    (h : Value.okWide Tryd.prog w r base 25 v) (_ : DataW.Trod enc Tryd.prog w b0 sp hd 25 v d ps) : ∃ x : Mk, v = .agg x.vals.toArray := by
  obtain ⟨cs, rfl, hl, hc⟩ := flatV (.inl mk_struct) mk_types (by kernel_rfl) h
  match cs, hl with
  | [z0, z1, z2, z3, z4, z5, z6, z7, z8], _ =>
    obtain ⟨x0, e0, k0⟩ := hc 0 4 rfl
    obtain ⟨x1, e1, k1⟩ := hc 1 3 rfl
    obtain ⟨x2, e2, k2⟩ := hc 2 5 rfl
    obtain ⟨x3, e3, k3⟩ := hc 3 5 rfl
    obtain ⟨x4, e4, k4⟩ := hc 4 5 rfl
    obtain ⟨x5, e5, k5⟩ := hc 5 5 rfl
    obtain ⟨x6, e6, k6⟩ := hc 6 5 rfl
    obtain ⟨x7, e7, k7⟩ := hc 7 5 rfl
    obtain ⟨x8, e8, k8⟩ := hc 8 3 rfl
    obtain rfl : z0 = x0 := Option.some.inj e0
    obtain rfl : z1 = x1 := Option.some.inj e1
    obtain rfl : z2 = x2 := Option.some.inj e2
    obtain rfl : z3 = x3 := Option.some.inj e3
    obtain rfl : z4 = x4 := Option.some.inj e4
    obtain rfl : z5 = x5 := Option.some.inj e5
    obtain rfl : z6 = x6 := Option.some.inj e6
    obtain rfl : z7 = x7 := Option.some.inj e7
    obtain rfl : z8 = x8 := Option.some.inj e8
    obtain ⟨c0, rfl⟩ := cell_bool Tryd.underlying4 k0
    obtain ⟨c1, rfl, h1⟩ := cell_int Tryd.underlying3 k1
    obtain ⟨n2, rfl, h2⟩ := cell_int Tryd.underlying5 k2
    obtain ⟨c2, rfl⟩ := u8_has h2
    obtain ⟨n3, rfl, h3⟩ := cell_int Tryd.underlying5 k3
    obtain ⟨c3, rfl⟩ := u8_has h3
    obtain ⟨n4, rfl, h4⟩ := cell_int Tryd.underlying5 k4
    obtain ⟨c4, rfl⟩ := u8_has h4
    obtain ⟨n5, rfl, h5⟩ := cell_int Tryd.underlying5 k5
    obtain ⟨c5, rfl⟩ := u8_has h5
    obtain ⟨n6, rfl, h6⟩ := cell_int Tryd.underlying5 k6
    obtain ⟨c6, rfl⟩ := u8_has h6
    obtain ⟨n7, rfl, h7⟩ := cell_int Tryd.underlying5 k7
    obtain ⟨c7, rfl⟩ := u8_has h7
    obtain ⟨c8, rfl, h8⟩ := cell_int Tryd.underlying3 k8
    exact ⟨⟨c0, c1, ⟨c2, c3, c4, c5, c6, c7⟩, c8⟩, rfl⟩
theorem ErrVar.ext2 {w W : World} (h : ErrVar w) (hb : Below w.heap.size w W) : ErrVar W := by
  have hl := World.block_lt_of_cell? w _ h
  unfold ErrVar at *
  rw [hb.cell hl]; exact h
theorem ad_eq1 (x : Ad) (W : World) : (binOp .eql 23 (.agg x.vals.toArray) (.agg x.vals.toArray)).run Tryd.prog W = .ok (.bool true) W := by
  rw [run_eql_struct, show (10000 : Nat) = 9998 + 1 + 1 from rfl, ad_self]; rfl
theorem ad_guard1 (x : Ad) (p q : Operand) (W : World) : (eqGuard .eql 23 p q (.agg x.vals.toArray) (.agg x.vals.toArray)).run Tryd.prog W = .ok () W := run_eqGuard_agg W .eql _ p q _ _ (by kernel_rfl)
set_option maxRecDepth 100000 in
set_option maxHeartbeats 4000000 in
theorem law_MarkerBack (v : Value) (m : Mk) (w : World) (hv : v = .agg m.vals.toArray) (hE : ErrVar w) :
    Calls Tryd.prog 3 #[v] w fun e w' => e = .returned (.bool true) ∧ Below w.heap.size w w' := by
  subst hv
  have H0 := Lib.hid ((St.init w).alloc m.vals 25)
  have HE := Lib.hid hE
  clear hE
  cases hk : m.okB
  · have HW := Lib.hid (mkWrite_no m hk)
    have HK := Lib.hid hk
    clear hk
    go_enter Tryd.func3, Tryd.ntmps3
    go_upto_region 1 with (fail)
    generalize World.alloc _ _ = w0 at *
    go_wp2_with (first
      | ((with_reducible refine (linked_any _).mono ?_)
         rintro e w1 ⟨rfl, hb1⟩
         have H1 := Lib.hid (H0.out.ext hb1)
         clear hb1)
      | (with_reducible refine wpList_load_rng (ty := 25) m.vals (by with_unfolding_all rfl) (Blk.box (H2.out.at 0 rfl)).range Tryd.underlying25 (by with_unfolding_all rfl) (by with_unfolding_all exact info25) ?_)
      | (with_reducible refine wpList_load_rng (ty := 25) m.vals (by with_unfolding_all rfl) (Blk.box (H1.out.at 0 rfl)).range Tryd.underlying25 (by with_unfolding_all rfl) (by with_unfolding_all exact info25) ?_)
      | ((with_reducible refine (HW.out _).mono ?_)
         rintro e w2 ⟨rfl, hb2⟩
         have H2 := Lib.hid (H1.out.ext hb2)
         clear hb2)
      | ((with_reducible refine (mark_any m _).mono ?_)
         rintro e w3 ⟨rfl, hb3⟩
         rw [HK.out]
         have H3 := Lib.hid (H2.out.ext hb3)
         clear hb3)
      | ((with_reducible refine (tell_errno 1 _ (HE.out.ext2 H3.out.below)).mono ?_)
         rintro e w4 ⟨rfl, hb4⟩
         have H4 := Lib.hid (H3.out.ext hb4)
         clear hb4))
    go_ret
    exact ⟨rfl, H4.out.below⟩
  · have HW := Lib.hid (mkWrite_ok m hk)
    have HR := Lib.hid (mkRead_ok m hk)
    have HK := Lib.hid hk
    have HKa : Hid (m.answer.okB = true) := Lib.hid hk
    have hb1 : ((m.bytes.length : Int) != 110) = false := by rw [Mk.bytes_len]; rfl
    have EL := mk_neq m
    have GL := fun p q => mk_guardn m p q
    have EA : ∀ W, (binOp .eql 23 (.agg #[.int .u8 m.sys.a.toNat, .int .u8 m.sys.b.toNat, .int .u8 m.sys.c.toNat, .int .u8 m.sys.d.toNat, .int .u8 m.sys.e.toNat, .int .u8 m.sys.f.toNat]) (.agg #[.int .u8 m.sys.a.toNat, .int .u8 m.sys.b.toNat, .int .u8 m.sys.c.toNat, .int .u8 m.sys.d.toNat, .int .u8 m.sys.e.toNat, .int .u8 m.sys.f.toNat])).run Tryd.prog W = .ok (.bool true) W := fun W => ad_eq1 m.sys W
    have GA : ∀ p q W, (eqGuard .eql 23 p q (.agg #[.int .u8 m.sys.a.toNat, .int .u8 m.sys.b.toNat, .int .u8 m.sys.c.toNat, .int .u8 m.sys.d.toNat, .int .u8 m.sys.e.toNat, .int .u8 m.sys.f.toNat]) (.agg #[.int .u8 m.sys.a.toNat, .int .u8 m.sys.b.toNat, .int .u8 m.sys.c.toNat, .int .u8 m.sys.d.toNat, .int .u8 m.sys.e.toNat, .int .u8 m.sys.f.toNat])).run Tryd.prog W = .ok () W := fun p q W => ad_guard1 m.sys p q W
    generalize m.bytes = S at *
    clear hk
    cases hrep : m.reply
    · have HA := Lib.hid (answer_yes m hrep)
      have HB := Lib.hid (answer_no m.answer rfl)
      have Hrep := Lib.hid hrep
      clear hrep
      go_enter Tryd.func3, Tryd.ntmps3
      go_upto_region 1 with (fail)
      generalize World.alloc _ _ = w0 at *
      go_upto_region 6 with (first
        | ((with_reducible refine (linked_any _).mono ?_)
           rintro e w1 ⟨rfl, hb1⟩
           have H1 := Lib.hid (H0.out.ext hb1)
           clear hb1)
        | (with_reducible refine wpList_load_rng (ty := 25) m.vals (by with_unfolding_all rfl) (Blk.box (H2.out.at 0 rfl)).range Tryd.underlying25 (by with_unfolding_all rfl) (by with_unfolding_all exact info25) ?_)
        | (with_reducible refine wpList_load_rng (ty := 25) m.vals (by with_unfolding_all rfl) (Blk.box (H1.out.at 0 rfl)).range Tryd.underlying25 (by with_unfolding_all rfl) (by with_unfolding_all exact info25) ?_)
        | ((with_reducible refine (HW.out _).mono ?_)
           rintro e w2 ⟨rfl, hb2⟩
           have H2 := Lib.hid (H1.out.ext hb2)
           clear hb2)
        | ((with_reducible refine (mark_any m _).mono ?_)
           rintro e w3 ⟨rfl, hb3⟩
           rw [HK.out]
           have H3 := Lib.hid (H2.out.ext hb3)
           clear hb3))
      go_upto_region 7 with (first
        | ((with_reducible refine (HR.out _).mono ?_)
           rintro e w4 ⟨rfl, hb4⟩
           have H4 := Lib.hid (H3.out.ext hb4)
           clear hb4)
        | (with_reducible refine wpList_store_blk (ty := 25) (o := 0) _ m.vals (by with_unfolding_all rfl) (by with_unfolding_all rfl) (Blk.new w4 zMk 25) (by with_unfolding_all exact Nat.le_refl _) (by with_unfolding_all exact info25) (Mk.one _) (fun W5 hBW5 hoW5 => ?_)))
      have H5 : Hid (St w.heap.size w W5 [bk w4.heap.size 25 m.vals, bk w.heap.size 25 m.vals]) := Lib.hid ((H4.out.alloc zMk 25).sets (L' := m.vals) hBW5 hoW5)
      clear hBW5 hoW5 H4 H3 H2 H1
      generalize w4.heap.size = P at *
      go_upto_region 8 with (first
        | (with_reducible refine wpList_load_rng (ty := 25) m.vals (by with_unfolding_all rfl) (Blk.box (H5.out.at 1 rfl)).range Tryd.underlying25 (by with_unfolding_all rfl) (by with_unfolding_all exact info25) ?_)
        | ((with_reducible refine (HA.out _).mono ?_)
           rintro e w6 ⟨rfl, hb6⟩
           have H6 := Lib.hid (H5.out.ext hb6)
           clear hb6)
        | (with_reducible refine wpList_store_blk (ty := 25) (o := 0) _ m.answer.vals (by with_unfolding_all rfl) (by with_unfolding_all rfl) (Blk.new w6 zMk 25) (by with_unfolding_all exact Nat.le_refl _) (by with_unfolding_all exact info25) (Mk.one _) (fun W7 hBW7 hoW7 => ?_)))
      have H7 : Hid (St w.heap.size w W7 [bk w6.heap.size 25 m.answer.vals, bk P 25 m.vals, bk w.heap.size 25 m.vals]) := Lib.hid ((H6.out.alloc zMk 25).sets (L' := m.answer.vals) hBW7 hoW7)
      clear hBW7 hoW7 H6 H5
      generalize w6.heap.size = Q at *
      have R70 := Lib.hid (Blk.box (H7.out.at 0 rfl)).range
      have R71 := Lib.hid (Blk.box (H7.out.at 1 rfl)).range
      have R72 := Lib.hid (Blk.box (H7.out.at 2 rfl)).range
      have c0 : W7.cell? ⟨w.heap.size, 0, none⟩ = some (.bool false) := by
        have := (H7.out.pull 2 rfl).cell 0
        rw [show m.vals.toArray[0]? = some (.bool m.reply) from rfl, Hrep.out] at this; exact this
      go_upto_region 12 with (first
        | (with_reducible refine wpList_load_rngG (ty := 25) m.vals (by with_unfolding_all rfl) (by with_unfolding_all rfl) R71.out Tryd.underlying25 (by with_unfolding_all rfl) (by with_unfolding_all exact info25) ?_)
        | (with_reducible refine wpList_load_rngG (ty := 25) m.vals (by with_unfolding_all rfl) (by with_unfolding_all rfl) R72.out Tryd.underlying25 (by with_unfolding_all rfl) (by with_unfolding_all exact info25) ?_))
      go_upto_region 13 with (first
        | (with_reducible refine wpList_load_rng (ty := 25) m.answer.vals (by with_unfolding_all rfl) R70.out Tryd.underlying25 (by with_unfolding_all rfl) (by with_unfolding_all exact info25) ?_)
        | ((with_reducible refine (HB.out _).mono ?_)
           rintro e w8 ⟨rfl, hb8⟩
           have H8 := Lib.hid (H7.out.ext hb8)
           clear hb8)
        | (with_reducible refine wpList_store_blk (ty := 25) (o := 0) _ zMk (by with_unfolding_all rfl) (by with_unfolding_all rfl) (Blk.new w8 zMk 25) (by with_unfolding_all exact Nat.le_refl _) (by with_unfolding_all exact info25) zMk_one (fun W9 hBW9 hoW9 => ?_)))
      have H9 : Hid (St w.heap.size w W9 [bk w8.heap.size 25 zMk, bk Q 25 m.answer.vals, bk P 25 m.vals, bk w.heap.size 25 m.vals]) := Lib.hid ((H8.out.alloc zMk 25).sets (L' := zMk) hBW9 hoW9)
      clear hBW9 hoW9 H8 c0 R70 R71 R72 H7
      have R91 := Lib.hid (Blk.box (H9.out.at 1 rfl)).range
      go_wp2_with (first
        | (with_reducible refine wpList_load_rngG (ty := 25) m.answer.vals (by with_unfolding_all rfl) (by with_unfolding_all rfl) R91.out Tryd.underlying25 (by with_unfolding_all rfl) (by with_unfolding_all exact info25) ?_)
        | ((with_reducible refine (mark_any m.answer _).mono ?_)
           rintro e w10 ⟨rfl, hb10⟩
           rw [HKa.out]
           have H10 := Lib.hid (H9.out.ext hb10)
           have Bq := Blk.box (H10.out.at 1 rfl)
           have q0 : w10.cell? ⟨Q, 0, none⟩ = some (.bool true) := Bq.cell 0
           have q1 : w10.cell? ⟨Q, 1, none⟩ = some (.int .i64 m.port) := Bq.cell 1
           have q2 : w10.cell? ⟨Q, 2, none⟩ = some (.int .u8 m.sys.a.toNat) := Bq.cell 2
           have q3 : w10.cell? ⟨Q, 3, none⟩ = some (.int .u8 m.sys.b.toNat) := Bq.cell 3
           have q4 : w10.cell? ⟨Q, 4, none⟩ = some (.int .u8 m.sys.c.toNat) := Bq.cell 4
           have q5 : w10.cell? ⟨Q, 5, none⟩ = some (.int .u8 m.sys.d.toNat) := Bq.cell 5
           have q6 : w10.cell? ⟨Q, 6, none⟩ = some (.int .u8 m.sys.e.toNat) := Bq.cell 6
           have q7 : w10.cell? ⟨Q, 7, none⟩ = some (.int .u8 m.sys.f.toNat) := Bq.cell 7
           have q8 : w10.cell? ⟨Q, 8, none⟩ = some (.int .i64 m.txn) := Bq.cell 8
           clear Bq
           have Bm := Blk.box (H10.out.at 3 rfl)
           have m1 : w10.cell? ⟨w.heap.size, 1, none⟩ = some (.int .i64 m.port) := Bm.cell 1
           have m2 : w10.cell? ⟨w.heap.size, 2, none⟩ = some (.int .u8 m.sys.a.toNat) := Bm.cell 2
           have m3 : w10.cell? ⟨w.heap.size, 3, none⟩ = some (.int .u8 m.sys.b.toNat) := Bm.cell 3
           have m4 : w10.cell? ⟨w.heap.size, 4, none⟩ = some (.int .u8 m.sys.c.toNat) := Bm.cell 4
           have m5 : w10.cell? ⟨w.heap.size, 5, none⟩ = some (.int .u8 m.sys.d.toNat) := Bm.cell 5
           have m6 : w10.cell? ⟨w.heap.size, 6, none⟩ = some (.int .u8 m.sys.e.toNat) := Bm.cell 6
           have m7 : w10.cell? ⟨w.heap.size, 7, none⟩ = some (.int .u8 m.sys.f.toNat) := Bm.cell 7
           have m8 : w10.cell? ⟨w.heap.size, 8, none⟩ = some (.int .i64 m.txn) := Bm.cell 8
           clear Bm
           clear hb10)
        | ((with_reducible refine (tell_errno 6 _ (HE.out.ext2 H10.out.below)).mono ?_)
           rintro e w11 ⟨rfl, hb11⟩
           have H11 := Lib.hid (H10.out.ext hb11)
           clear hb11))
      go_ret
      exact ⟨rfl, H11.out.below⟩
    · have HA := Lib.hid (answer_no m hrep)
      have Hrep := Lib.hid hrep
      clear hrep
      go_enter Tryd.func3, Tryd.ntmps3
      go_upto_region 1 with (fail)
      generalize World.alloc _ _ = w0 at *
      go_upto_region 6 with (first
        | ((with_reducible refine (linked_any _).mono ?_)
           rintro e w1 ⟨rfl, hb1⟩
           have H1 := Lib.hid (H0.out.ext hb1)
           clear hb1)
        | (with_reducible refine wpList_load_rng (ty := 25) m.vals (by with_unfolding_all rfl) (Blk.box (H2.out.at 0 rfl)).range Tryd.underlying25 (by with_unfolding_all rfl) (by with_unfolding_all exact info25) ?_)
        | (with_reducible refine wpList_load_rng (ty := 25) m.vals (by with_unfolding_all rfl) (Blk.box (H1.out.at 0 rfl)).range Tryd.underlying25 (by with_unfolding_all rfl) (by with_unfolding_all exact info25) ?_)
        | ((with_reducible refine (HW.out _).mono ?_)
           rintro e w2 ⟨rfl, hb2⟩
           have H2 := Lib.hid (H1.out.ext hb2)
           clear hb2)
        | ((with_reducible refine (mark_any m _).mono ?_)
           rintro e w3 ⟨rfl, hb3⟩
           rw [HK.out]
           have H3 := Lib.hid (H2.out.ext hb3)
           clear hb3))
      go_upto_region 7 with (first
        | ((with_reducible refine (HR.out _).mono ?_)
           rintro e w4 ⟨rfl, hb4⟩
           have H4 := Lib.hid (H3.out.ext hb4)
           clear hb4)
        | (with_reducible refine wpList_store_blk (ty := 25) (o := 0) _ m.vals (by with_unfolding_all rfl) (by with_unfolding_all rfl) (Blk.new w4 zMk 25) (by with_unfolding_all exact Nat.le_refl _) (by with_unfolding_all exact info25) (Mk.one _) (fun W5 hBW5 hoW5 => ?_)))
      have H5 : Hid (St w.heap.size w W5 [bk w4.heap.size 25 m.vals, bk w.heap.size 25 m.vals]) := Lib.hid ((H4.out.alloc zMk 25).sets (L' := m.vals) hBW5 hoW5)
      clear hBW5 hoW5 H4 H3 H2 H1
      generalize w4.heap.size = P at *
      go_upto_region 8 with (first
        | (with_reducible refine wpList_load_rng (ty := 25) m.vals (by with_unfolding_all rfl) (Blk.box (H5.out.at 1 rfl)).range Tryd.underlying25 (by with_unfolding_all rfl) (by with_unfolding_all exact info25) ?_)
        | ((with_reducible refine (HA.out _).mono ?_)
           rintro e w6 ⟨rfl, hb6⟩
           have H6 := Lib.hid (H5.out.ext hb6)
           clear hb6)
        | (with_reducible refine wpList_store_blk (ty := 25) (o := 0) _ zMk (by with_unfolding_all rfl) (by with_unfolding_all rfl) (Blk.new w6 zMk 25) (by with_unfolding_all exact Nat.le_refl _) (by with_unfolding_all exact info25) zMk_one (fun W7 hBW7 hoW7 => ?_)))
      have H7 : Hid (St w.heap.size w W7 [bk w6.heap.size 25 zMk, bk P 25 m.vals, bk w.heap.size 25 m.vals]) := Lib.hid ((H6.out.alloc zMk 25).sets (L' := zMk) hBW7 hoW7)
      clear hBW7 hoW7 H6 H5
      generalize w6.heap.size = Q at *
      have R71 := Lib.hid (Blk.box (H7.out.at 1 rfl)).range
      have R72 := Lib.hid (Blk.box (H7.out.at 2 rfl)).range
      have c0 : W7.cell? ⟨w.heap.size, 0, none⟩ = some (.bool true) := by
        have := (H7.out.pull 2 rfl).cell 0
        rw [show m.vals.toArray[0]? = some (.bool m.reply) from rfl, Hrep.out] at this; exact this
      go_wp2_with (first
        | (with_reducible refine wpList_load_rngG (ty := 25) m.vals (by with_unfolding_all rfl) (by with_unfolding_all rfl) R71.out Tryd.underlying25 (by with_unfolding_all rfl) (by with_unfolding_all exact info25) ?_)
        | (with_reducible refine wpList_load_rngG (ty := 25) m.vals (by with_unfolding_all rfl) (by with_unfolding_all rfl) R72.out Tryd.underlying25 (by with_unfolding_all rfl) (by with_unfolding_all exact info25) ?_)
        | ((with_reducible refine (tell_errno 6 _ (HE.out.ext2 H7.out.below)).mono ?_)
           rintro e w8 ⟨rfl, hb8⟩
           have H8 := Lib.hid (H7.out.ext hb8)
           clear hb8))
      go_ret
      exact ⟨rfl, H8.out.below⟩
end Go.Proofs.YteibhcocldihbaaDoor

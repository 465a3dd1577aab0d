/- ArpReply. (Printed by tools/mkar4.py.) -/
import Derived.Test.YtidcjbanhdpkkaaDoorAr3
import Derived.Test.YtidcjbanhdpkkaaDoorPick
import Derived.Test.YtidcjbanhdpkkaaDoorTell2
import Derived.Test.YtidcjbanhdpkkaaDoorErrVar
import Derived.Test.YtidcjbanhdpkkaaDoorLacp12
namespace Go.Proofs.YtidcjbanhdpkkaaDoor
open Go.RowKit
set_option maxRecDepth 100000 in
theorem arp_types : Tryd.prog.cellTypes Tryd.prog.depth 26 = some [3, 5, 5, 5, 5, 5, 5, 5, 5, 5, 5, 5, 5, 5, 5, 5, 5, 5, 5, 5, 5] := by kernel_rfl
theorem arp_struct : ∃ fs, Tryd.prog.underlying 26 = some (.struct fs) := ⟨_, Tryd.underlying26⟩
set_option maxRecDepth 100000 in
set_option maxHeartbeats 1000000 in
theorem open_arp {H : Type} {enc : TypeId × Value → H} {w : World} {r : Reach} {base : Nat} {b0 : Nat} {sp : Nat → Bool} {hd : Bool} {v : Value} {d : DataW H} {ps : List MemPlace}
    (h : Value.okWide Tryd.prog w r base 26 v) (_ : DataW.Trod enc Tryd.prog w b0 sp hd 26 v d ps) : ∃ x : Ar, v = .agg x.vals.toArray := by
  obtain ⟨cs, rfl, hl, hc⟩ := flatV (.inl arp_struct) arp_types (by kernel_rfl) h
  match cs, hl with
  | [z0, z1, z2, z3, z4, z5, z6, z7, z8, z9, z10, z11, z12, z13, z14, z15, z16, z17, z18, z19, z20], _ =>
    obtain ⟨x0, e0, k0⟩ := hc 0 3 rfl
    obtain ⟨x1, e1, k1⟩ := hc 1 5 rfl
    obtain ⟨x2, e2, k2⟩ := hc 2 5 rfl
    obtain ⟨x3, e3, k3⟩ := hc 3 5 rfl
    obtain ⟨x4, e4, k4⟩ := hc 4 5 rfl
    obtain ⟨x5, e5, k5⟩ := hc 5 5 rfl
    obtain ⟨x6, e6, k6⟩ := hc 6 5 rfl
    obtain ⟨x7, e7, k7⟩ := hc 7 5 rfl
    obtain ⟨x8, e8, k8⟩ := hc 8 5 rfl
    obtain ⟨x9, e9, k9⟩ := hc 9 5 rfl
    obtain ⟨x10, e10, k10⟩ := hc 10 5 rfl
    obtain ⟨x11, e11, k11⟩ := hc 11 5 rfl
    obtain ⟨x12, e12, k12⟩ := hc 12 5 rfl
    obtain ⟨x13, e13, k13⟩ := hc 13 5 rfl
    obtain ⟨x14, e14, k14⟩ := hc 14 5 rfl
    obtain ⟨x15, e15, k15⟩ := hc 15 5 rfl
    obtain ⟨x16, e16, k16⟩ := hc 16 5 rfl
    obtain ⟨x17, e17, k17⟩ := hc 17 5 rfl
    obtain ⟨x18, e18, k18⟩ := hc 18 5 rfl
    obtain ⟨x19, e19, k19⟩ := hc 19 5 rfl
    obtain ⟨x20, e20, k20⟩ := hc 20 5 rfl
    obtain rfl : z0 = x0 := Option.some.inj e0
    obtain rfl : z1 = x1 := Option.some.inj e1
    obtain rfl : z2 = x2 := Option.some.inj e2
    obtain rfl : z3 = x3 := Option.some.inj e3
    obtain rfl : z4 = x4 := Option.some.inj e4
    obtain rfl : z5 = x5 := Option.some.inj e5
    obtain rfl : z6 = x6 := Option.some.inj e6
    obtain rfl : z7 = x7 := Option.some.inj e7
    obtain rfl : z8 = x8 := Option.some.inj e8
    obtain rfl : z9 = x9 := Option.some.inj e9
    obtain rfl : z10 = x10 := Option.some.inj e10
    obtain rfl : z11 = x11 := Option.some.inj e11
    obtain rfl : z12 = x12 := Option.some.inj e12
    obtain rfl : z13 = x13 := Option.some.inj e13
    obtain rfl : z14 = x14 := Option.some.inj e14
    obtain rfl : z15 = x15 := Option.some.inj e15
    obtain rfl : z16 = x16 := Option.some.inj e16
    obtain rfl : z17 = x17 := Option.some.inj e17
    obtain rfl : z18 = x18 := Option.some.inj e18
    obtain rfl : z19 = x19 := Option.some.inj e19
    obtain rfl : z20 = x20 := Option.some.inj e20
    obtain ⟨c0, rfl, h0⟩ := cell_int Tryd.underlying3 k0
    obtain ⟨n1, rfl, h1⟩ := cell_int Tryd.underlying5 k1
    obtain ⟨c1, rfl⟩ := u8_has h1
    obtain ⟨n2, rfl, h2⟩ := cell_int Tryd.underlying5 k2
    obtain ⟨c2, rfl⟩ := u8_has h2
    obtain ⟨n3, rfl, h3⟩ := cell_int Tryd.underlying5 k3
    obtain ⟨c3, rfl⟩ := u8_has h3
    obtain ⟨n4, rfl, h4⟩ := cell_int Tryd.underlying5 k4
    obtain ⟨c4, rfl⟩ := u8_has h4
    obtain ⟨n5, rfl, h5⟩ := cell_int Tryd.underlying5 k5
    obtain ⟨c5, rfl⟩ := u8_has h5
    obtain ⟨n6, rfl, h6⟩ := cell_int Tryd.underlying5 k6
    obtain ⟨c6, rfl⟩ := u8_has h6
    obtain ⟨n7, rfl, h7⟩ := cell_int Tryd.underlying5 k7
    obtain ⟨c7, rfl⟩ := u8_has h7
    obtain ⟨n8, rfl, h8⟩ := cell_int Tryd.underlying5 k8
    obtain ⟨c8, rfl⟩ := u8_has h8
    obtain ⟨n9, rfl, h9⟩ := cell_int Tryd.underlying5 k9
    obtain ⟨c9, rfl⟩ := u8_has h9
    obtain ⟨n10, rfl, h10⟩ := cell_int Tryd.underlying5 k10
    obtain ⟨c10, rfl⟩ := u8_has h10
    obtain ⟨n11, rfl, h11⟩ := cell_int Tryd.underlying5 k11
    obtain ⟨c11, rfl⟩ := u8_has h11
    obtain ⟨n12, rfl, h12⟩ := cell_int Tryd.underlying5 k12
    obtain ⟨c12, rfl⟩ := u8_has h12
    obtain ⟨n13, rfl, h13⟩ := cell_int Tryd.underlying5 k13
    obtain ⟨c13, rfl⟩ := u8_has h13
    obtain ⟨n14, rfl, h14⟩ := cell_int Tryd.underlying5 k14
    obtain ⟨c14, rfl⟩ := u8_has h14
    obtain ⟨n15, rfl, h15⟩ := cell_int Tryd.underlying5 k15
    obtain ⟨c15, rfl⟩ := u8_has h15
    obtain ⟨n16, rfl, h16⟩ := cell_int Tryd.underlying5 k16
    obtain ⟨c16, rfl⟩ := u8_has h16
    obtain ⟨n17, rfl, h17⟩ := cell_int Tryd.underlying5 k17
    obtain ⟨c17, rfl⟩ := u8_has h17
    obtain ⟨n18, rfl, h18⟩ := cell_int Tryd.underlying5 k18
    obtain ⟨c18, rfl⟩ := u8_has h18
    obtain ⟨n19, rfl, h19⟩ := cell_int Tryd.underlying5 k19
    obtain ⟨c19, rfl⟩ := u8_has h19
    obtain ⟨n20, rfl, h20⟩ := cell_int Tryd.underlying5 k20
    obtain ⟨c20, rfl⟩ := u8_has h20
    exact ⟨⟨c0, ⟨c1, c2, c3, c4, c5, c6⟩, ⟨c7, c8, c9, c10, c11, c12⟩, ⟨c13, c14, c15, c16⟩, ⟨c17, c18, c19, c20⟩⟩, rfl⟩
set_option maxRecDepth 100000 in
theorem addr_types : Tryd.prog.cellTypes Tryd.prog.depth 23 = some [5, 5, 5, 5, 5, 5] := by kernel_rfl
theorem addr_struct : ∃ n e, Tryd.prog.underlying 23 = some (.array n e) := ⟨_, _, Tryd.underlying23⟩
set_option maxRecDepth 100000 in
set_option maxHeartbeats 1000000 in
theorem open_addr {H : Type} {enc : TypeId × Value → H} {w : World} {r : Reach} {base : Nat} {b0 : Nat} {sp : Nat → Bool} {hd : Bool} {v : Value} {d : DataW H} {ps : List MemPlace}
    (h : Value.okWide Tryd.prog w r base 23 v) (_ : DataW.Trod enc Tryd.prog w b0 sp hd 23 v d ps) : ∃ x : Ad, v = .agg x.vals.toArray := by
  obtain ⟨cs, rfl, hl, hc⟩ := flatV (.inr addr_struct) addr_types (by kernel_rfl) h
  match cs, hl with
  | [z0, z1, z2, z3, z4, z5], _ =>
    obtain ⟨x0, e0, k0⟩ := hc 0 5 rfl
    obtain ⟨x1, e1, k1⟩ := hc 1 5 rfl
    obtain ⟨x2, e2, k2⟩ := hc 2 5 rfl
    obtain ⟨x3, e3, k3⟩ := hc 3 5 rfl
    obtain ⟨x4, e4, k4⟩ := hc 4 5 rfl
    obtain ⟨x5, e5, k5⟩ := hc 5 5 rfl
    obtain rfl : z0 = x0 := Option.some.inj e0
    obtain rfl : z1 = x1 := Option.some.inj e1
    obtain rfl : z2 = x2 := Option.some.inj e2
    obtain rfl : z3 = x3 := Option.some.inj e3
    obtain rfl : z4 = x4 := Option.some.inj e4
    obtain rfl : z5 = x5 := Option.some.inj e5
    obtain ⟨n0, rfl, h0⟩ := cell_int Tryd.underlying5 k0
    obtain ⟨c0, rfl⟩ := u8_has h0
    obtain ⟨n1, rfl, h1⟩ := cell_int Tryd.underlying5 k1
    obtain ⟨c1, rfl⟩ := u8_has h1
    obtain ⟨n2, rfl, h2⟩ := cell_int Tryd.underlying5 k2
    obtain ⟨c2, rfl⟩ := u8_has h2
    obtain ⟨n3, rfl, h3⟩ := cell_int Tryd.underlying5 k3
    obtain ⟨c3, rfl⟩ := u8_has h3
    obtain ⟨n4, rfl, h4⟩ := cell_int Tryd.underlying5 k4
    obtain ⟨c4, rfl⟩ := u8_has h4
    obtain ⟨n5, rfl, h5⟩ := cell_int Tryd.underlying5 k5
    obtain ⟨c5, rfl⟩ := u8_has h5
    exact ⟨⟨c0, c1, c2, c3, c4, c5⟩, rfl⟩
theorem ad_eqS (x : Ad) (W : World) : (binOp .eql 23 (.agg x.vals.toArray) (.agg x.vals.toArray)).run Tryd.prog W = .ok (.bool true) W := by
  rw [ad_eq]; simp
theorem qd_eqS (x : Qd) (W : World) : (binOp .eql 24 (.agg x.vals.toArray) (.agg x.vals.toArray)).run Tryd.prog W = .ok (.bool true) W := by
  rw [run_eql_struct, show (10000 : Nat) = 9998 + 1 + 1 from rfl, qd_self]; rfl
theorem qd_guard (x : Qd) (p q : Operand) (W : World) : (eqGuard .eql 24 p q (.agg x.vals.toArray) (.agg x.vals.toArray)).run Tryd.prog W = .ok () W := run_eqGuard_agg W .eql _ p q _ _ (by kernel_rfl)
theorem ad_guardS (x : Ad) (p q : Operand) (W : World) : (eqGuard .eql 23 p q (.agg x.vals.toArray) (.agg x.vals.toArray)).run Tryd.prog W = .ok () W := ad_guard .eql x x p q W
set_option maxRecDepth 100000 in
set_option maxHeartbeats 4000000 in
theorem law_ArpReply (v0 : Value) (a : Ar) (v1 : Value) (m : Ad) (w : World) (hv0 : v0 = .agg a.vals.toArray) (hv1 : v1 = .agg m.vals.toArray) (hE : ErrVar w) :
    Calls Tryd.prog 3 #[v0, v1] w fun e w' => e = .returned (.bool true) ∧ Below w.heap.size w w' := by
  subst hv0 hv1
  have H0 := Lib.hid ((St.init w).alloc2 a.vals m.vals 26 23)
  have HE := Lib.hid hE
  clear hE
  have HPk : Hid (∀ W, Calls Tryd.prog 10 #[.int .i64 a.op, .int .i64 2] W fun e w' => e = .returned (.int .i64 (pickN a.op 2 : Nat)) ∧ W = w') := Lib.hid (fun W => pick_any a.op 2 W (by decide) (by decide))
  have hp2 := pickN_lt a.op 2 (by decide)
  obtain ⟨op, ⟨s1, s2, s3, s4, s5, s6⟩, ⟨t1, t2, t3, t4, t5, t6⟩, ⟨p1, p2, p3, p4⟩, ⟨q1, q2, q3, q4⟩⟩ := a
  obtain ⟨m1, m2, m3, m4, m5, m6⟩ := m
  simp only [] at HPk hp2
  have hcase : pickN op 2 = 0 ∨ pickN op 2 = 1 := by omega
  clear hp2
  rcases hcase with hc | hc
  · rw [hc] at HPk
    clear hc
    go_enter Tryd.func3, Tryd.ntmps3
    go_upto_region 1 with (fail)
    generalize World.alloc _ _ = w0 at *
    go_upto_region 3 with (first
      | ((with_reducible refine (asked_any _).mono ?_)
         rintro e w1 ⟨rfl, hb1⟩
         have H1 := Lib.hid (H0.out.ext hb1)
         clear hb1))
    have c0 := (ar_rng (Blk.box (H1.out.at 1 rfl))).1
    have z0' := (H1.out.pull 1 rfl).frozen 0
    simp only [] at c0
    go_upto_region 4 with (first
      | ((with_reducible refine (HPk.out _).mono ?_)
         rintro e w2 ⟨rfl, rfl⟩
         skip))
    have H2 : Hid (St w.heap.size w _ [bk w.heap.size 26 (Ar.vals ⟨1, ⟨s1, s2, s3, s4, s5, s6⟩, ⟨t1, t2, t3, t4, t5, t6⟩, ⟨p1, p2, p3, p4⟩, ⟨q1, q2, q3, q4⟩⟩), bk (w.heap.size + 1) 23 (Ad.vals ⟨m1, m2, m3, m4, m5, m6⟩)]) := Lib.hid ((H1.out.pull 1 rfl).set 0 (.int .i64 1) (by rw [Ar.len]; decide))
    clear c0 z0' H0 H1 HPk
    generalize World.setCell _ _ _ = w2 at *
    have HR1 : Hid (∀ W, Calls Tryd.prog 11 #[.agg (Ar.vals ⟨1, ⟨s1, s2, s3, s4, s5, s6⟩, ⟨t1, t2, t3, t4, t5, t6⟩, ⟨p1, p2, p3, p4⟩, ⟨q1, q2, q3, q4⟩⟩).toArray, .agg (Ad.vals ⟨m1, m2, m3, m4, m5, m6⟩).toArray] W fun e w' => e = .returned (.tuple #[.agg (Ar.vals ⟨2, ⟨m1, m2, m3, m4, m5, m6⟩, ⟨s1, s2, s3, s4, s5, s6⟩, ⟨q1, q2, q3, q4⟩, ⟨p1, p2, p3, p4⟩⟩).toArray, .nilIface]) ∧ Below W.heap.size W w') := Lib.hid (fun W => reply_any ⟨1, ⟨s1, s2, s3, s4, s5, s6⟩, ⟨t1, t2, t3, t4, t5, t6⟩, ⟨p1, p2, p3, p4⟩, ⟨q1, q2, q3, q4⟩⟩ ⟨m1, m2, m3, m4, m5, m6⟩ W)
    have HR2 : Hid (∀ W, Calls Tryd.prog 11 #[.agg (Ar.vals ⟨2, ⟨m1, m2, m3, m4, m5, m6⟩, ⟨s1, s2, s3, s4, s5, s6⟩, ⟨q1, q2, q3, q4⟩, ⟨p1, p2, p3, p4⟩⟩).toArray, .agg (Ad.vals ⟨m1, m2, m3, m4, m5, m6⟩).toArray] W fun e w' => e = .returned (.tuple #[.agg z0.vals.toArray, .iface 33 (.int .i64 6)]) ∧ Below W.heap.size W w') := Lib.hid (fun W => reply_any ⟨2, ⟨m1, m2, m3, m4, m5, m6⟩, ⟨s1, s2, s3, s4, s5, s6⟩, ⟨q1, q2, q3, q4⟩, ⟨p1, p2, p3, p4⟩⟩ ⟨m1, m2, m3, m4, m5, m6⟩ W)
    have HRt : Hid (∀ W, Calls Tryd.prog 13 #[.agg (Ar.vals ⟨2, ⟨m1, m2, m3, m4, m5, m6⟩, ⟨s1, s2, s3, s4, s5, s6⟩, ⟨q1, q2, q3, q4⟩, ⟨p1, p2, p3, p4⟩⟩).toArray] W fun e w' => e = .returned (.bool true) ∧ Below W.heap.size W w') := Lib.hid (fun W => arRight_any ⟨2, ⟨m1, m2, m3, m4, m5, m6⟩, ⟨s1, s2, s3, s4, s5, s6⟩, ⟨q1, q2, q3, q4⟩, ⟨p1, p2, p3, p4⟩⟩ W)
    go_upto_region 5 with (first
      | (with_reducible refine wpList_load_rng (ty := 26) (Ar.vals ⟨1, ⟨s1, s2, s3, s4, s5, s6⟩, ⟨t1, t2, t3, t4, t5, t6⟩, ⟨p1, p2, p3, p4⟩, ⟨q1, q2, q3, q4⟩⟩) (by with_unfolding_all rfl) (Blk.box (H2.out.at 0 rfl)).range Tryd.underlying26 (by with_unfolding_all rfl) (by with_unfolding_all exact info26) ?_)
      | (with_reducible refine wpList_load_rng (ty := 23) (Ad.vals ⟨m1, m2, m3, m4, m5, m6⟩) (by with_unfolding_all rfl) (Blk.box (H2.out.at 1 rfl)).range Tryd.underlying23 (by with_unfolding_all rfl) (by with_unfolding_all exact info23) ?_)
      | ((with_reducible refine (HR1.out _).mono ?_)
         rintro e w3 ⟨rfl, hb3⟩
         have H3 := Lib.hid (H2.out.ext hb3)
         clear hb3)
      | (with_reducible refine wpList_store_blk (ty := 26) (o := 0) _ (Ar.vals ⟨2, ⟨m1, m2, m3, m4, m5, m6⟩, ⟨s1, s2, s3, s4, s5, s6⟩, ⟨q1, q2, q3, q4⟩, ⟨p1, p2, p3, p4⟩⟩) (by with_unfolding_all rfl) (by with_unfolding_all rfl) (Blk.new w3 zAr 26) (by with_unfolding_all exact Nat.le_refl _) (by with_unfolding_all exact info26) (Ar.one _) (fun W4 hBW4 hoW4 => ?_)))
    have H4 : Hid (St w.heap.size w W4 [bk w3.heap.size 26 (Ar.vals ⟨2, ⟨m1, m2, m3, m4, m5, m6⟩, ⟨s1, s2, s3, s4, s5, s6⟩, ⟨q1, q2, q3, q4⟩, ⟨p1, p2, p3, p4⟩⟩), bk w.heap.size 26 (Ar.vals ⟨1, ⟨s1, s2, s3, s4, s5, s6⟩, ⟨t1, t2, t3, t4, t5, t6⟩, ⟨p1, p2, p3, p4⟩, ⟨q1, q2, q3, q4⟩⟩), bk (w.heap.size + 1) 23 (Ad.vals ⟨m1, m2, m3, m4, m5, m6⟩)]) := Lib.hid ((H3.out.alloc zAr 26).sets (L' := Ar.vals ⟨2, ⟨m1, m2, m3, m4, m5, m6⟩, ⟨s1, s2, s3, s4, s5, s6⟩, ⟨q1, q2, q3, q4⟩, ⟨p1, p2, p3, p4⟩⟩) hBW4 hoW4)
    clear hBW4 hoW4 H3 H2
    generalize w3.heap.size = P5 at *
    have c0 : W4.cell? ⟨w.heap.size, 0, none⟩ = some (.int .i64 1) := (Blk.box (H4.out.at 1 rfl)).cell 0
    go_upto_region 8 with (first
      | (with_reducible refine wpList_load_rng (ty := 26) (Ar.vals ⟨2, ⟨m1, m2, m3, m4, m5, m6⟩, ⟨s1, s2, s3, s4, s5, s6⟩, ⟨q1, q2, q3, q4⟩, ⟨p1, p2, p3, p4⟩⟩) (by with_unfolding_all rfl) (Blk.box (H4.out.at 0 rfl)).range Tryd.underlying26 (by with_unfolding_all rfl) (by with_unfolding_all exact info26) ?_)
      | (with_reducible refine wpList_load_rng (ty := 23) (Ad.vals ⟨m1, m2, m3, m4, m5, m6⟩) (by with_unfolding_all rfl) (Blk.box (H4.out.at 2 rfl)).range Tryd.underlying23 (by with_unfolding_all rfl) (by with_unfolding_all exact info23) ?_)
      | ((with_reducible refine (HR2.out _).mono ?_)
         rintro e w5 ⟨rfl, hb5⟩
         have H5 := Lib.hid (H4.out.ext hb5)
         clear hb5)
      | (with_reducible refine wpList_store_blk (ty := 26) (o := 0) _ z0.vals (by with_unfolding_all rfl) (by with_unfolding_all rfl) (Blk.new w5 zAr 26) (by with_unfolding_all exact Nat.le_refl _) (by with_unfolding_all exact info26) (Ar.one _) (fun W6 hBW6 hoW6 => ?_)))
    have H6 : Hid (St w.heap.size w W6 [bk w5.heap.size 26 z0.vals, bk P5 26 (Ar.vals ⟨2, ⟨m1, m2, m3, m4, m5, m6⟩, ⟨s1, s2, s3, s4, s5, s6⟩, ⟨q1, q2, q3, q4⟩, ⟨p1, p2, p3, p4⟩⟩), bk w.heap.size 26 (Ar.vals ⟨1, ⟨s1, s2, s3, s4, s5, s6⟩, ⟨t1, t2, t3, t4, t5, t6⟩, ⟨p1, p2, p3, p4⟩, ⟨q1, q2, q3, q4⟩⟩), bk (w.heap.size + 1) 23 (Ad.vals ⟨m1, m2, m3, m4, m5, m6⟩)]) := Lib.hid ((H5.out.alloc zAr 26).sets (L' := z0.vals) hBW6 hoW6)
    clear hBW6 hoW6 H5 H4 c0
    generalize w5.heap.size = P7 at *
    have HX : Hid (∀ W, St w.heap.size w W [bk P7 26 z0.vals, bk P5 26 (Ar.vals ⟨2, ⟨m1, m2, m3, m4, m5, m6⟩, ⟨s1, s2, s3, s4, s5, s6⟩, ⟨q1, q2, q3, q4⟩, ⟨p1, p2, p3, p4⟩⟩), bk w.heap.size 26 (Ar.vals ⟨1, ⟨s1, s2, s3, s4, s5, s6⟩, ⟨t1, t2, t3, t4, t5, t6⟩, ⟨p1, p2, p3, p4⟩, ⟨q1, q2, q3, q4⟩⟩), bk (w.heap.size + 1) 23 (Ad.vals ⟨m1, m2, m3, m4, m5, m6⟩)] → W.cell? ⟨P5, 1, none⟩ = some (.int .u8 m1.toNat) ∧ W.cell? ⟨P5, 2, none⟩ = some (.int .u8 m2.toNat) ∧ W.cell? ⟨P5, 3, none⟩ = some (.int .u8 m3.toNat) ∧ W.cell? ⟨P5, 4, none⟩ = some (.int .u8 m4.toNat) ∧ W.cell? ⟨P5, 5, none⟩ = some (.int .u8 m5.toNat) ∧ W.cell? ⟨P5, 6, none⟩ = some (.int .u8 m6.toNat) ∧ W.cell? ⟨P5, 7, none⟩ = some (.int .u8 s1.toNat) ∧ W.cell? ⟨P5, 8, none⟩ = some (.int .u8 s2.toNat) ∧ W.cell? ⟨P5, 9, none⟩ = some (.int .u8 s3.toNat) ∧ W.cell? ⟨P5, 10, none⟩ = some (.int .u8 s4.toNat) ∧ W.cell? ⟨P5, 11, none⟩ = some (.int .u8 s5.toNat) ∧ W.cell? ⟨P5, 12, none⟩ = some (.int .u8 s6.toNat) ∧ W.cell? ⟨P5, 13, none⟩ = some (.int .u8 q1.toNat) ∧ W.cell? ⟨P5, 14, none⟩ = some (.int .u8 q2.toNat) ∧ W.cell? ⟨P5, 15, none⟩ = some (.int .u8 q3.toNat) ∧ W.cell? ⟨P5, 16, none⟩ = some (.int .u8 q4.toNat) ∧ W.cell? ⟨P5, 17, none⟩ = some (.int .u8 p1.toNat) ∧ W.cell? ⟨P5, 18, none⟩ = some (.int .u8 p2.toNat) ∧ W.cell? ⟨P5, 19, none⟩ = some (.int .u8 p3.toNat) ∧ W.cell? ⟨P5, 20, none⟩ = some (.int .u8 p4.toNat) ∧ W.cell? ⟨w.heap.size, 1, none⟩ = some (.int .u8 s1.toNat) ∧ W.cell? ⟨w.heap.size, 2, none⟩ = some (.int .u8 s2.toNat) ∧ W.cell? ⟨w.heap.size, 3, none⟩ = some (.int .u8 s3.toNat) ∧ W.cell? ⟨w.heap.size, 4, none⟩ = some (.int .u8 s4.toNat) ∧ W.cell? ⟨w.heap.size, 5, none⟩ = some (.int .u8 s5.toNat) ∧ W.cell? ⟨w.heap.size, 6, none⟩ = some (.int .u8 s6.toNat) ∧ W.cell? ⟨w.heap.size, 7, none⟩ = some (.int .u8 t1.toNat) ∧ W.cell? ⟨w.heap.size, 8, none⟩ = some (.int .u8 t2.toNat) ∧ W.cell? ⟨w.heap.size, 9, none⟩ = some (.int .u8 t3.toNat) ∧ W.cell? ⟨w.heap.size, 10, none⟩ = some (.int .u8 t4.toNat) ∧ W.cell? ⟨w.heap.size, 11, none⟩ = some (.int .u8 t5.toNat) ∧ W.cell? ⟨w.heap.size, 12, none⟩ = some (.int .u8 t6.toNat) ∧ W.cell? ⟨w.heap.size, 13, none⟩ = some (.int .u8 p1.toNat) ∧ W.cell? ⟨w.heap.size, 14, none⟩ = some (.int .u8 p2.toNat) ∧ W.cell? ⟨w.heap.size, 15, none⟩ = some (.int .u8 p3.toNat) ∧ W.cell? ⟨w.heap.size, 16, none⟩ = some (.int .u8 p4.toNat) ∧ W.cell? ⟨w.heap.size, 17, none⟩ = some (.int .u8 q1.toNat) ∧ W.cell? ⟨w.heap.size, 18, none⟩ = some (.int .u8 q2.toNat) ∧ W.cell? ⟨w.heap.size, 19, none⟩ = some (.int .u8 q3.toNat) ∧ W.cell? ⟨w.heap.size, 20, none⟩ = some (.int .u8 q4.toNat) ∧ W.cell? ⟨(w.heap.size + 1), 0, none⟩ = some (.int .u8 m1.toNat) ∧ W.cell? ⟨(w.heap.size + 1), 1, none⟩ = some (.int .u8 m2.toNat) ∧ W.cell? ⟨(w.heap.size + 1), 2, none⟩ = some (.int .u8 m3.toNat) ∧ W.cell? ⟨(w.heap.size + 1), 3, none⟩ = some (.int .u8 m4.toNat) ∧ W.cell? ⟨(w.heap.size + 1), 4, none⟩ = some (.int .u8 m5.toNat) ∧ W.cell? ⟨(w.heap.size + 1), 5, none⟩ = some (.int .u8 m6.toNat)) := Lib.hid (fun W h => by
      have B1 := Blk.box (h.at 1 rfl)
      have B2 := Blk.box (h.at 2 rfl)
      have B3 := Blk.box (h.at 3 rfl)
      exact ⟨B1.cell 1, B1.cell 2, B1.cell 3, B1.cell 4, B1.cell 5, B1.cell 6, B1.cell 7, B1.cell 8, B1.cell 9, B1.cell 10, B1.cell 11, B1.cell 12, B1.cell 13, B1.cell 14, B1.cell 15, B1.cell 16, B1.cell 17, B1.cell 18, B1.cell 19, B1.cell 20, B2.cell 1, B2.cell 2, B2.cell 3, B2.cell 4, B2.cell 5, B2.cell 6, B2.cell 7, B2.cell 8, B2.cell 9, B2.cell 10, B2.cell 11, B2.cell 12, B2.cell 13, B2.cell 14, B2.cell 15, B2.cell 16, B2.cell 17, B2.cell 18, B2.cell 19, B2.cell 20, B3.cell 0, B3.cell 1, B3.cell 2, B3.cell 3, B3.cell 4, B3.cell 5⟩)
    have E1 : ∀ (W : World), (binOp .eql 23 (.agg #[.int .u8 s1.toNat, .int .u8 s2.toNat, .int .u8 s3.toNat, .int .u8 s4.toNat, .int .u8 s5.toNat, .int .u8 s6.toNat]) (.agg #[.int .u8 s1.toNat, .int .u8 s2.toNat, .int .u8 s3.toNat, .int .u8 s4.toNat, .int .u8 s5.toNat, .int .u8 s6.toNat])).run Tryd.prog W = .ok (.bool true) W := fun W => ad_eqS ⟨s1, s2, s3, s4, s5, s6⟩ W
    have G1 : ∀ (x y : Operand) (W : World), (eqGuard .eql 23 x y (.agg #[.int .u8 s1.toNat, .int .u8 s2.toNat, .int .u8 s3.toNat, .int .u8 s4.toNat, .int .u8 s5.toNat, .int .u8 s6.toNat]) (.agg #[.int .u8 s1.toNat, .int .u8 s2.toNat, .int .u8 s3.toNat, .int .u8 s4.toNat, .int .u8 s5.toNat, .int .u8 s6.toNat])).run Tryd.prog W = .ok () W := fun x y W => ad_guardS ⟨s1, s2, s3, s4, s5, s6⟩ x y W
    have E2 : ∀ (W : World), (binOp .eql 24 (.agg #[.int .u8 p1.toNat, .int .u8 p2.toNat, .int .u8 p3.toNat, .int .u8 p4.toNat]) (.agg #[.int .u8 p1.toNat, .int .u8 p2.toNat, .int .u8 p3.toNat, .int .u8 p4.toNat])).run Tryd.prog W = .ok (.bool true) W := fun W => qd_eqS ⟨p1, p2, p3, p4⟩ W
    have G2 : ∀ (x y : Operand) (W : World), (eqGuard .eql 24 x y (.agg #[.int .u8 p1.toNat, .int .u8 p2.toNat, .int .u8 p3.toNat, .int .u8 p4.toNat]) (.agg #[.int .u8 p1.toNat, .int .u8 p2.toNat, .int .u8 p3.toNat, .int .u8 p4.toNat])).run Tryd.prog W = .ok () W := fun x y W => qd_guard ⟨p1, p2, p3, p4⟩ x y W
    have E3 : ∀ (W : World), (binOp .eql 24 (.agg #[.int .u8 q1.toNat, .int .u8 q2.toNat, .int .u8 q3.toNat, .int .u8 q4.toNat]) (.agg #[.int .u8 q1.toNat, .int .u8 q2.toNat, .int .u8 q3.toNat, .int .u8 q4.toNat])).run Tryd.prog W = .ok (.bool true) W := fun W => qd_eqS ⟨q1, q2, q3, q4⟩ W
    have G3 : ∀ (x y : Operand) (W : World), (eqGuard .eql 24 x y (.agg #[.int .u8 q1.toNat, .int .u8 q2.toNat, .int .u8 q3.toNat, .int .u8 q4.toNat]) (.agg #[.int .u8 q1.toNat, .int .u8 q2.toNat, .int .u8 q3.toNat, .int .u8 q4.toNat])).run Tryd.prog W = .ok () W := fun x y W => qd_guard ⟨q1, q2, q3, q4⟩ x y W
    have E4 : ∀ (W : World), (binOp .eql 23 (.agg #[.int .u8 m1.toNat, .int .u8 m2.toNat, .int .u8 m3.toNat, .int .u8 m4.toNat, .int .u8 m5.toNat, .int .u8 m6.toNat]) (.agg #[.int .u8 m1.toNat, .int .u8 m2.toNat, .int .u8 m3.toNat, .int .u8 m4.toNat, .int .u8 m5.toNat, .int .u8 m6.toNat])).run Tryd.prog W = .ok (.bool true) W := fun W => ad_eqS ⟨m1, m2, m3, m4, m5, m6⟩ W
    have G4 : ∀ (x y : Operand) (W : World), (eqGuard .eql 23 x y (.agg #[.int .u8 m1.toNat, .int .u8 m2.toNat, .int .u8 m3.toNat, .int .u8 m4.toNat, .int .u8 m5.toNat, .int .u8 m6.toNat]) (.agg #[.int .u8 m1.toNat, .int .u8 m2.toNat, .int .u8 m3.toNat, .int .u8 m4.toNat, .int .u8 m5.toNat, .int .u8 m6.toNat])).run Tryd.prog W = .ok () W := fun x y W => ad_guardS ⟨m1, m2, m3, m4, m5, m6⟩ x y W
    go_wp2_with (first
      | (with_reducible refine wpList_load_rngG (ty := 26) (Ar.vals ⟨2, ⟨m1, m2, m3, m4, m5, m6⟩, ⟨s1, s2, s3, s4, s5, s6⟩, ⟨q1, q2, q3, q4⟩, ⟨p1, p2, p3, p4⟩⟩) (by with_unfolding_all rfl) (by with_unfolding_all rfl) (Blk.box (H6.out.at 1 rfl)).range Tryd.underlying26 (by with_unfolding_all rfl) (by with_unfolding_all exact info26) ?_)
      | ((with_reducible refine (HRt.out _).mono ?_)
         rintro e w7 ⟨rfl, hb7⟩
         have H7 := Lib.hid (H6.out.ext hb7)
         obtain ⟨x0, x1, x2, x3, x4, x5, x6, x7, x8, x9, x10, x11, x12, x13, x14, x15, x16, x17, x18, x19, x20, x21, x22, x23, x24, x25, x26, x27, x28, x29, x30, x31, x32, x33, x34, x35, x36, x37, x38, x39, x40, x41, x42, x43, x44, x45⟩ := HX.out _ H7.out
         clear hb7)
      | ((with_reducible refine (tell_errno 6 _ (HE.out.ext H7.out.below)).mono ?_)
         rintro e w8 ⟨rfl, hb8⟩
         have H8 := Lib.hid (H7.out.ext hb8)
         clear hb8))
    go_ret
    exact ⟨rfl, H8.out.below⟩
  · rw [hc] at HPk
    clear hc
    go_enter Tryd.func3, Tryd.ntmps3
    go_upto_region 1 with (fail)
    generalize World.alloc _ _ = w0 at *
    go_upto_region 3 with (first
      | ((with_reducible refine (asked_any _).mono ?_)
         rintro e w1 ⟨rfl, hb1⟩
         have H1 := Lib.hid (H0.out.ext hb1)
         clear hb1))
    have c0 := (ar_rng (Blk.box (H1.out.at 1 rfl))).1
    have z0' := (H1.out.pull 1 rfl).frozen 0
    simp only [] at c0
    go_upto_region 4 with (first
      | ((with_reducible refine (HPk.out _).mono ?_)
         rintro e w2 ⟨rfl, rfl⟩
         skip))
    have H2 : Hid (St w.heap.size w _ [bk w.heap.size 26 (Ar.vals ⟨2, ⟨s1, s2, s3, s4, s5, s6⟩, ⟨t1, t2, t3, t4, t5, t6⟩, ⟨p1, p2, p3, p4⟩, ⟨q1, q2, q3, q4⟩⟩), bk (w.heap.size + 1) 23 (Ad.vals ⟨m1, m2, m3, m4, m5, m6⟩)]) := Lib.hid ((H1.out.pull 1 rfl).set 0 (.int .i64 2) (by rw [Ar.len]; decide))
    clear c0 z0' H0 H1 HPk
    generalize World.setCell _ _ _ = w2 at *
    have HR2 : Hid (∀ W, Calls Tryd.prog 11 #[.agg (Ar.vals ⟨2, ⟨s1, s2, s3, s4, s5, s6⟩, ⟨t1, t2, t3, t4, t5, t6⟩, ⟨p1, p2, p3, p4⟩, ⟨q1, q2, q3, q4⟩⟩).toArray, .agg (Ad.vals ⟨m1, m2, m3, m4, m5, m6⟩).toArray] W fun e w' => e = .returned (.tuple #[.agg z0.vals.toArray, .iface 33 (.int .i64 6)]) ∧ Below W.heap.size W w') := Lib.hid (fun W => reply_any ⟨2, ⟨s1, s2, s3, s4, s5, s6⟩, ⟨t1, t2, t3, t4, t5, t6⟩, ⟨p1, p2, p3, p4⟩, ⟨q1, q2, q3, q4⟩⟩ ⟨m1, m2, m3, m4, m5, m6⟩ W)
    go_upto_region 5 with (first
      | (with_reducible refine wpList_load_rng (ty := 26) (Ar.vals ⟨2, ⟨s1, s2, s3, s4, s5, s6⟩, ⟨t1, t2, t3, t4, t5, t6⟩, ⟨p1, p2, p3, p4⟩, ⟨q1, q2, q3, q4⟩⟩) (by with_unfolding_all rfl) (Blk.box (H2.out.at 0 rfl)).range Tryd.underlying26 (by with_unfolding_all rfl) (by with_unfolding_all exact info26) ?_)
      | (with_reducible refine wpList_load_rng (ty := 23) (Ad.vals ⟨m1, m2, m3, m4, m5, m6⟩) (by with_unfolding_all rfl) (Blk.box (H2.out.at 1 rfl)).range Tryd.underlying23 (by with_unfolding_all rfl) (by with_unfolding_all exact info23) ?_)
      | ((with_reducible refine (HR2.out _).mono ?_)
         rintro e w3 ⟨rfl, hb3⟩
         have H3 := Lib.hid (H2.out.ext hb3)
         clear hb3)
      | (with_reducible refine wpList_store_blk (ty := 26) (o := 0) _ z0.vals (by with_unfolding_all rfl) (by with_unfolding_all rfl) (Blk.new w3 zAr 26) (by with_unfolding_all exact Nat.le_refl _) (by with_unfolding_all exact info26) (Ar.one _) (fun W4 hBW4 hoW4 => ?_)))
    have H4 : Hid (St w.heap.size w W4 [bk w3.heap.size 26 z0.vals, bk w.heap.size 26 (Ar.vals ⟨2, ⟨s1, s2, s3, s4, s5, s6⟩, ⟨t1, t2, t3, t4, t5, t6⟩, ⟨p1, p2, p3, p4⟩, ⟨q1, q2, q3, q4⟩⟩), bk (w.heap.size + 1) 23 (Ad.vals ⟨m1, m2, m3, m4, m5, m6⟩)]) := Lib.hid ((H3.out.alloc zAr 26).sets (L' := z0.vals) hBW4 hoW4)
    clear hBW4 hoW4 H3 H2
    generalize w3.heap.size = P5 at *
    have c0 : W4.cell? ⟨w.heap.size, 0, none⟩ = some (.int .i64 2) := (Blk.box (H4.out.at 1 rfl)).cell 0
    have EZ := ar_eq z0
    have GZ := fun p q => ar_guard .eql z0 p q
    have PZ := Lib.hid ar_zero
    generalize z0 = Z at *
    go_wp2_with (first
      | (with_reducible refine wpList_load_rngG (ty := 26) Z.vals (by with_unfolding_all rfl) (by with_unfolding_all rfl) (Blk.box (H5.out.at 0 rfl)).range Tryd.underlying26 (by with_unfolding_all rfl) (by with_unfolding_all exact info26) ?_)
      | (with_reducible refine wpList_buildAG (t := 26) [] Z.vals (by with_unfolding_all rfl) (by with_unfolding_all rfl) PZ.out ?_)
      | ((with_reducible refine (tell_errno 6 _ (HE.out.ext H4.out.below)).mono ?_)
         rintro e w5 ⟨rfl, hb5⟩
         have H5 := Lib.hid (H4.out.ext hb5)
         clear hb5))
    go_ret
    exact ⟨rfl, H5.out.below⟩
end Go.Proofs.YtidcjbanhdpkkaaDoor

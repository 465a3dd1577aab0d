/- mstp: equal BPDUs are found equal. (Printed by tools/mkmst7.py.) mstp: what is read, in two ways; treed. (Printed by tools/mkmst8.py.) The law MstpStill. (Printed by tools/mkmst9.py.) -/
import Derived.Test.YteibhcocldihbaaDoorZS8
import Derived.Test.YteibhcocldihbaaDoorZS5
import Derived.Test.YteibhcocldihbaaDoorZS3
import Derived.Test.YteibhcocldihbaaDoorZS9
set_option linter.all false
namespace Go.Proofs.YteibhcocldihbaaDoor
open Go.RowKit Go.ChangeShapes Go.WideShapes
set_option maxRecDepth 100000 in
set_option maxHeartbeats 1000000 in
theorem ins_eqIn (x : Ins) (d : Nat) (W : World) : (Op.equalIn (d + 1 + 1 + 1 + 1) 104 (.agg x.vals.toArray) (.agg x.vals.toArray)).run Tryd.prog W = .ok true W := by
  have u3 := Tryd.underlying3
  have a3 := Tryd.isAgg3
  have z3 := Tryd.sizeOf3
  have aF := Tryd.isAgg38
  have zF := Tryd.sizeOf38
  have aB := Tryd.isAgg40
  have zB := Tryd.sizeOf40
  have hS : Tryd.prog.underlying 104 = some (.struct (Tryd.prog.fieldsOf 104)) := by kernel_rfl
  have hp : Tryd.prog.stoodInHeld 104 = false := by kernel_rfl
  obtain ⟨f, r, c, b, p, h⟩ := x
  have h1 := fl_eqIn f f (d + 1) W
  have h2 := br_eqIn r r d W
  rw [decide_eq_true rfl] at h1 h2
  obtain ⟨f1, f2, f3, f4, f5, f6, f7⟩ := f
  obtain ⟨r1, r2, ⟨x1, x2, x3, x4, x5, x6⟩⟩ := r
  simp only [Fl.vals, Br.vals, Ad.vals] at h1 h2
  simp only [Ins.vals, Fl.vals, Br.vals, Ad.vals, List.cons_append, List.nil_append]
  rw [run_equalIn_agg W (d + 1 + 1 + 1) 104 _ _ hS hp]
  have hI : ∀ (a b : Int) (W : World), (Op.equalIn (d + 1 + 1 + 1) 3 (.int .i64 a) (.int .i64 b)).run Tryd.prog W = .ok (a == b) W := fun a b W => run_equalIn_int W (d + 1 + 1) 3 .i64 .i64 a b u3
  generalize d + 1 + 1 + 1 = D at *
  simp only [Program.fieldsOf, Tryd.underlying104]
  go_simp
theorem ins_neq (x : Ins) (W : World) : (binOp .neq 104 (.agg x.vals.toArray) (.agg x.vals.toArray)).run Tryd.prog W = .ok (.bool false) W := by
  rw [run_neq_struct, show (10000 : Nat) = 9996 + 1 + 1 + 1 + 1 from rfl, ins_eqIn]; rfl
theorem ins_guard (x : Ins) (p q : Operand) (W : World) : (eqGuard .neq 104 p q (.agg x.vals.toArray) (.agg x.vals.toArray)).run Tryd.prog W = .ok () W := run_eqGuard_agg W .neq _ p q _ _ (by kernel_rfl)
theorem br_eq1 (x : Br) (W : World) : (binOp .eql 40 (.agg x.vals.toArray) (.agg x.vals.toArray)).run Tryd.prog W = .ok (.bool true) W := by
  rw [run_eql_struct, show (10000 : Nat) = 9997 + 1 + 1 + 1 from rfl, br_eqIn, decide_eq_true rfl]; rfl
theorem br_guard1 (x : Br) (p q : Operand) (W : World) : (eqGuard .eql 40 p q (.agg x.vals.toArray) (.agg x.vals.toArray)).run Tryd.prog W = .ok () W := run_eqGuard_agg W .eql _ p q _ _ (by kernel_rfl)
set_option maxRecDepth 100000 in
set_option maxHeartbeats 2000000 in
theorem insEq_any (l : List Ins) (n : Nat) (hlen : l.length = n) (A A' : Option Addr) (c c' : Nat) (w : World) (hn : n ≤ 9223372036854775807) (hr : SlRow w w.heap.size 19 A (l.map Ins.vals)) (hr' : SlRow w w.heap.size 19 A' (l.map Ins.vals)) :
    Calls Tryd.prog 70 #[.slice A n c, .slice A' n c'] w fun e w' => e = .returned (.bool true) ∧ Below w.heap.size w w' := by
  have Hr := Lib.hid hr
  have Hr' := Lib.hid hr'
  have Hlen := Lib.hid hlen
  have htl : (l.map Ins.vals).length = n := by rw [List.length_map]; exact hlen
  have Htl := Lib.hid htl
  clear hr hr' hlen htl
  go_enter Tryd.func70, Tryd.ntmps70
  go_wp2_with fail
  go_loopw [5, 13] (fun _ i wr => ∃ k : Nat, k ≤ n ∧ i = .int .i64 k ∧ Hid (Below w.heap.size w wr)) (fun _ i _ => n - (intOf i).toNat)
  case atStart => exact ⟨0, by omega, rfl, Lib.hid (Below.refl _ _)⟩
  case round =>
    obtain ⟨k, hk, rfl, Hb⟩ := hrel
    by_cases hlt : k < n
    · have hkx : k < l.length := by rw [Hlen.out]; exact hlt
      have hkt : k < (l.map Ins.vals).length := by rw [Htl.out]; exact hlt
      obtain ⟨g, o, rfl, hg, hc⟩ := Hr.out (by omega)
      obtain ⟨g', o', rfl, hg', hc'⟩ := Hr'.out (by omega)
      have e : (l.map Ins.vals)[k]'hkt = l[k].vals := by simp only [List.getElem_map]
      have h1 := hc k hkt
      have h2 := hc' k hkt
      rw [e] at h1 h2
      clear hc hc' e
      generalize l[k] = x at *
      have E : ∀ (W : World), (binOp .neq 104 (.agg x.vals.toArray) (.agg x.vals.toArray)).run Tryd.prog W = .ok (.bool false) W := fun W => ins_neq x W
      have G : ∀ (p q : Operand) (W : World), (eqGuard .neq 104 p q (.agg x.vals.toArray) (.agg x.vals.toArray)).run Tryd.prog W = .ok () W := fun p q W => ins_guard x p q W
      have H1 := Lib.hid (rangeAt_below h1 Hb.out hg)
      have H2 := Lib.hid (rangeAt_below h2 Hb.out hg')
      have lg1 := Nat.lt_of_lt_of_le hg Hb.out.size
      have lg2 := Nat.lt_of_lt_of_le hg' Hb.out.size
      clear h1 h2
      go_upto_region 6 with (fail)
      refine wp_region_ext (by kernel_rfl) (by kernel_rfl) ?_
      repeat (go_big_quiet_step (fail))
      go_big_quiet_want
      with_reducible refine quiet_load_rng (b := ?b1) (off := ?o1) (ds := ?ds1) x.vals ?hx1 ?hr1 ?hu1 ?hd1 ?hi1 ?hk1
      case hx1 => rfl
      case hr1 => rintro _ ⟨y, rfl⟩; exact rangeAt_below H1.out y.below lg1
      case hu1 => exact Tryd.underlying104
      case hd1 => rfl
      case hi1 => exact info104
      go_simp
      go_big_quiet_on
      repeat (go_big_quiet_step (fail))
      go_big_quiet_want
      with_reducible refine quiet_load_rng (b := ?b2) (off := ?o2) (ds := ?ds2) x.vals ?hx2 ?hr2 ?hu2 ?hd2 ?hi2 ?hk2
      case hx2 => rfl
      case hr2 => rintro _ ⟨y, rfl⟩; exact rangeAt_below H2.out y.below lg2
      case hu2 => exact Tryd.underlying104
      case hd2 => rfl
      case hi2 => exact info104
      go_simp
      go_big_quiet_on
      repeat (go_big_quiet_step (fail))
      refine wpQuiet_nil ?_
      rintro w4 ⟨⟨_, hb4⟩, rfl⟩
      try simp only [] at *
      have Hb4 := Lib.hid (Hb.out.trans (hb4.mono Hb.out.size))
      go_wp2_with fail
      go_roundw
      case rel => exact ⟨k + 1, by omega, by go_num, Hb4⟩
      case measure => simp [intOf]; omega
    · go_wp2_with fail
      go_ret
      exact ⟨rfl, Hb.out⟩
set_option maxRecDepth 100000 in
set_option maxHeartbeats 8000000 in
theorem mstSame_yes (m : Mst) (A1 A2 : Option Addr) (k1 k2 : Nat) (w : World) (hl : m.insts.length ≤ 100000) (h1 : SlRow w w.heap.size 19 A1 (m.insts.map Ins.vals)) (h2 : SlRow w w.heap.size 19 A2 (m.insts.map Ins.vals)) :
    Calls Tryd.prog 23 #[.agg (m.vals (.slice A1 m.insts.length k1)).toArray, .agg (m.vals (.slice A2 m.insts.length k2)).toArray] w fun e w' => e = .returned (.bool true) ∧ Below w.heap.size w w' := by
  obtain ⟨b, nm, rv, dg, co, ⟨p, x, ⟨a0, a1, a2, a3, a4, a5⟩⟩, ho, L⟩ := m
  simp only [] at hl h1 h2 ⊢
  obtain ⟨n, hn⟩ : ∃ n, L.length = n := ⟨_, rfl⟩
  rw [hn] at hl ⊢
  have HEq : Hid (∀ W, Below w.heap.size w W → Calls Tryd.prog 70 #[.slice A1 n k1, .slice A2 n k2] W fun e w' => e = .returned (.bool true) ∧ Below W.heap.size W w') := Lib.hid fun W hW =>
    insEq_any L n hn _ _ k1 k2 W (by omega) ((h1.below hW (Nat.le_refl _)).more hW.size) ((h2.below hW (Nat.le_refl _)).more hW.size)
  have H1 := Lib.hid ((St.init w).alloc2 (Mst.vals ⟨b, nm, rv, dg, co, ⟨p, x, ⟨a0, a1, a2, a3, a4, a5⟩⟩, ho, L⟩ (.slice A1 n k1)) (Mst.vals ⟨b, nm, rv, dg, co, ⟨p, x, ⟨a0, a1, a2, a3, a4, a5⟩⟩, ho, L⟩ (.slice A2 n k2)) 47 47)
  have EQ := bp_eq b b
  rw [decide_eq_true rfl] at EQ
  have GQ := fun p q => bp_guard .eql b b p q
  have EB : ∀ (W : World), (binOp .eql 40 (.agg #[.int .i64 p, .int .i64 x, .int .u8 a0.toNat, .int .u8 a1.toNat, .int .u8 a2.toNat, .int .u8 a3.toNat, .int .u8 a4.toNat, .int .u8 a5.toNat]) (.agg #[.int .i64 p, .int .i64 x, .int .u8 a0.toNat, .int .u8 a1.toNat, .int .u8 a2.toNat, .int .u8 a3.toNat, .int .u8 a4.toNat, .int .u8 a5.toNat])).run Tryd.prog W = .ok (.bool true) W := fun W => br_eq1 ⟨p, x, ⟨a0, a1, a2, a3, a4, a5⟩⟩ W
  have GB : ∀ (y z : Operand) (W : World), (eqGuard .eql 40 y z (.agg #[.int .i64 p, .int .i64 x, .int .u8 a0.toNat, .int .u8 a1.toNat, .int .u8 a2.toNat, .int .u8 a3.toNat, .int .u8 a4.toNat, .int .u8 a5.toNat]) (.agg #[.int .i64 p, .int .i64 x, .int .u8 a0.toNat, .int .u8 a1.toNat, .int .u8 a2.toNat, .int .u8 a3.toNat, .int .u8 a4.toNat, .int .u8 a5.toNat])).run Tryd.prog W = .ok () W := fun y z W => br_guard1 ⟨p, x, ⟨a0, a1, a2, a3, a4, a5⟩⟩ y z W
  clear hn h1 h2
  go_enter Tryd.func23, Tryd.ntmps23
  go_upto_region 1 with (fail)
  generalize w.heap.size + 1 = PG at *
  generalize World.alloc _ _ = W1 at *
  have B1 := (H1.out.at 1 rfl : Blk W1 w.heap.size 47 (Mst.vals ⟨b, nm, rv, dg, co, ⟨p, x, ⟨a0, a1, a2, a3, a4, a5⟩⟩, ho, L⟩ (.slice A1 n k1))).box
  have B2 := (H1.out.at 0 rfl : Blk W1 PG 47 (Mst.vals ⟨b, nm, rv, dg, co, ⟨p, x, ⟨a0, a1, a2, a3, a4, a5⟩⟩, ho, L⟩ (.slice A2 n k2))).box
  have R1 := Lib.hid (mst_in B1).base
  have R2 := Lib.hid (mst_in B2).base
  obtain ⟨q0, q1, q2, q3, q4, q5, q6, q7, q8, q9, q10, q11, q12, q13, q14, q15, q16, q17, q18, q19, q20, q21, q22, q23, q24, q25⟩ : W1.cell? ⟨w.heap.size, 31, none⟩ = some (.string ⟨nm.toArray⟩) ∧ W1.cell? ⟨PG, 31, none⟩ = some (.string ⟨nm.toArray⟩) ∧ W1.cell? ⟨w.heap.size, 32, none⟩ = some (.int .i64 rv) ∧ W1.cell? ⟨PG, 32, none⟩ = some (.int .i64 rv) ∧ W1.cell? ⟨w.heap.size, 33, none⟩ = some (.string ⟨dg.toArray⟩) ∧ W1.cell? ⟨PG, 33, none⟩ = some (.string ⟨dg.toArray⟩) ∧ W1.cell? ⟨w.heap.size, 34, none⟩ = some (.int .i64 co) ∧ W1.cell? ⟨PG, 34, none⟩ = some (.int .i64 co) ∧ W1.cell? ⟨w.heap.size, 35, none⟩ = some (.int .i64 p) ∧ W1.cell? ⟨PG, 35, none⟩ = some (.int .i64 p) ∧ W1.cell? ⟨w.heap.size, 36, none⟩ = some (.int .i64 x) ∧ W1.cell? ⟨PG, 36, none⟩ = some (.int .i64 x) ∧ W1.cell? ⟨w.heap.size, 37, none⟩ = some (.int .u8 a0.toNat) ∧ W1.cell? ⟨PG, 37, none⟩ = some (.int .u8 a0.toNat) ∧ W1.cell? ⟨w.heap.size, 38, none⟩ = some (.int .u8 a1.toNat) ∧ W1.cell? ⟨PG, 38, none⟩ = some (.int .u8 a1.toNat) ∧ W1.cell? ⟨w.heap.size, 39, none⟩ = some (.int .u8 a2.toNat) ∧ W1.cell? ⟨PG, 39, none⟩ = some (.int .u8 a2.toNat) ∧ W1.cell? ⟨w.heap.size, 40, none⟩ = some (.int .u8 a3.toNat) ∧ W1.cell? ⟨PG, 40, none⟩ = some (.int .u8 a3.toNat) ∧ W1.cell? ⟨w.heap.size, 41, none⟩ = some (.int .u8 a4.toNat) ∧ W1.cell? ⟨PG, 41, none⟩ = some (.int .u8 a4.toNat) ∧ W1.cell? ⟨w.heap.size, 42, none⟩ = some (.int .u8 a5.toNat) ∧ W1.cell? ⟨PG, 42, none⟩ = some (.int .u8 a5.toNat) ∧ W1.cell? ⟨w.heap.size, 43, none⟩ = some (.int .i64 ho) ∧ W1.cell? ⟨PG, 43, none⟩ = some (.int .i64 ho) := ⟨B1.cell 31, B2.cell 31, B1.cell 32, B2.cell 32, B1.cell 33, B2.cell 33, B1.cell 34, B2.cell 34, B1.cell 35, B2.cell 35, B1.cell 36, B2.cell 36, B1.cell 37, B2.cell 37, B1.cell 38, B2.cell 38, B1.cell 39, B2.cell 39, B1.cell 40, B2.cell 40, B1.cell 41, B2.cell 41, B1.cell 42, B2.cell 42, B1.cell 43, B2.cell 43⟩
  have s1 : W1.cell? ⟨w.heap.size, 44, none⟩ = some (.slice A1 n k1) := B1.cell 44
  have s2 : W1.cell? ⟨PG, 44, none⟩ = some (.slice A2 n k2) := B2.cell 44
  clear B1 B2
  go_wp2_with (first
    | (with_reducible refine wpList_load_rng (ty := 44) b.vals (by with_unfolding_all rfl) R1.out Tryd.underlying44 (by with_unfolding_all rfl) (by with_unfolding_all exact info44) ?_)
    | (with_reducible refine wpList_load_rng (ty := 44) b.vals (by with_unfolding_all rfl) R2.out Tryd.underlying44 (by with_unfolding_all rfl) (by with_unfolding_all exact info44) ?_)
    | ((with_reducible refine (HEq.out _ H1.out.below).mono ?_)
       rintro e w2 ⟨rfl, hb2⟩
       have H3 := Lib.hid (H1.out.ext hb2)
       clear hb2))
  go_ret
  exact ⟨rfl, H3.out.below⟩
end Go.Proofs.YteibhcocldihbaaDoor
namespace Go.Proofs.YteibhcocldihbaaDoor
open Go.RowKit
theorem mstRead_ok (s : List UInt8) (m : Mst) (R : RS) (hs : s.length ≤ 1000000) (hrd : readMstM s = (m, R)) (he : R.err = none) (w : World) :
    Calls Tryd.prog 22 #[.string ⟨s.toArray⟩] w fun e w' => ∃ A cap, e = .returned (.tuple #[.agg (m.vals (.slice A m.insts.length cap)).toArray, .nilIface]) ∧ SlRow w' w'.heap.size 19 A (m.insts.map Ins.vals) ∧ Below w.heap.size w w' := by
  refine (mstRead_any s hs w).mono ?_
  rintro e w' ⟨A, cap, g, h1, h2, h3⟩
  have hg : mstGot s (.slice A (readMstM s).1.insts.length cap) g = .tuple #[.agg (m.vals (.slice A m.insts.length cap)).toArray, .nilIface] := by
    unfold mstGot
    rw [hrd]
    simp only []
    rw [if_pos he]
  rw [hg] at h1
  rw [hrd] at h2
  exact ⟨A, cap, h1, h2, h3⟩
theorem mstRead_no (s : List UInt8) (x : Int × Int) (hs : s.length ≤ 1000000) (he : (readMstM s).2.err = some x) (w : World) :
    Calls Tryd.prog 22 #[.string ⟨s.toArray⟩] w fun e w' => ∃ g, e = .returned (.tuple #[.agg (Mst.vals Mst.zero (.slice none 0 0)).toArray, .iface 130 (.pointer (some ⟨g, 0, none⟩))]) ∧ Below w.heap.size w w' := by
  refine (mstRead_any s hs w).mono ?_
  rintro e w' ⟨A, cap, g, h1, _, h3⟩
  have hg : mstGot s (.slice A (readMstM s).1.insts.length cap) g = .tuple #[.agg (Mst.vals Mst.zero (.slice none 0 0)).toArray, .iface 130 (.pointer (some ⟨g, 0, none⟩))] := by
    unfold mstGot
    rw [if_neg (by rw [he]; simp), errV_some he]
  rw [hg] at h1
  exact ⟨g, h1, h3⟩
def ti0 : Ins := ⟨Fl.zero, Br.zero, 0, 8, 8, 20⟩
def tb0 : Bp := { Bp.zero with kind := 3, port := ⟨0, 1⟩ }
def tm0 : Mst := ⟨tb0, [110], 0, List.replicate 16 100, 0, Br.zero, 20, [ti0]⟩
theorem tm0_b1 : Tryd.prog.built 42 [(1, .int .i64 1)] = some (Pt.vals ⟨0, 1⟩).toArray := by kernel_rfl
theorem tm0_b2 : Tryd.prog.built 44 [(0, .int .i64 3), (5, .agg (Pt.vals ⟨0, 1⟩).toArray)] = some tb0.vals.toArray := by kernel_rfl
theorem tm0_b3 : Tryd.prog.built 104 [(3, .int .i64 8), (4, .int .i64 8), (5, .int .i64 20)] = some ti0.vals.toArray := by kernel_rfl
theorem tm0_b4 (g : Nat) : Tryd.prog.built 47 [(0, .agg tb0.vals.toArray), (1, .string ⟨#[110]⟩), (3, .string ⟨(List.replicate 16 100).toArray⟩), (6, .int .i64 20), (7, .slice (some ⟨g, 0, none⟩) 1 1)] = some (tm0.vals (.slice (some ⟨g, 0, none⟩) 1 1)).toArray := by kernel_rfl
theorem rep_d (w : World) : Calls Tryd.prog 44 #[.string ⟨#[100]⟩, .int .i64 16] w fun e w' => e = .returned (.string ⟨(List.replicate 16 (100 : UInt8)).toArray⟩) ∧ Below w.heap.size w w' := by
  have h := Tryd.strings_Repeat ⟨#[100]⟩ 16 w (by omega) (by show 1 * 16 ≤ _; omega)
  have e : Lib.repeatL (⟨#[100]⟩ : ByteArray).data.toList 16 = List.replicate 16 (100 : UInt8) := by decide
  rw [e] at h
  exact h
set_option maxRecDepth 100000 in
set_option maxHeartbeats 8000000 in
theorem treed_any (w : World) : Calls Tryd.prog 19 #[] w fun e w' => e = .returned (.bool true) ∧ Below w.heap.size w w' := by
  have hok : tm0.okB = true := by decide
  have hbl := Mst.bytes_len (Mst.ok_iff.1 hok)
  obtain ⟨R, hrd, herr⟩ := readMst_bytes tm0 [120] hok (by rw [List.length_append, hbl]; decide)
  have HRd := Lib.hid hrd
  have HErr := Lib.hid herr
  have Hok := Lib.hid hok
  have hbl : tm0.bytes.length = 118 := hbl
  clear hok hrd herr
  go_enter Tryd.func19, Tryd.ntmps19
  go_upto_region 2 with (first
    | (with_reducible refine wpList_buildA (t := 42) [(1, .int .i64 1)] (Pt.vals ⟨0, 1⟩) (by with_unfolding_all rfl) tm0_b1 ?_)
    | (with_reducible refine wpList_buildA (t := 44) [(0, .int .i64 3), (5, .agg (Pt.vals ⟨0, 1⟩).toArray)] tb0.vals (by with_unfolding_all rfl) tm0_b2 ?_)
    | ((with_reducible refine (rep_d _).mono ?_)
       rintro e w0 ⟨rfl, hb0⟩
       skip)
    | (with_reducible refine wpList_buildA (t := 104) [(3, .int .i64 8), (4, .int .i64 8), (5, .int .i64 20)] ti0.vals (by with_unfolding_all rfl) tm0_b3 ?_)
    | ((with_reducible refine wpList_build1 ti0.vals elemIns ?hxb rfl (by decide) ?_)
       case hxb => rfl
       intro W1 hB1 hb1 hl1)
    | (with_reducible refine wpList_buildA (t := 47) [(0, .agg tb0.vals.toArray), (1, .string ⟨#[110]⟩), (3, .string ⟨(List.replicate 16 100).toArray⟩), (6, .int .i64 20), (7, .slice (some ⟨w0.heap.size, 0, none⟩) 1 1)] (tm0.vals (.slice (some ⟨w0.heap.size, 0, none⟩) 1 1)) (by with_unfolding_all rfl) (tm0_b4 w0.heap.size) ?_)
    | (with_reducible refine wpList_store_blk (ty := 47) (o := 0) _ (tm0.vals (.slice (some ⟨w0.heap.size, 0, none⟩) 1 1)) (by with_unfolding_all rfl) (by with_unfolding_all rfl) (Blk.new W1 zMst 47) (by with_unfolding_all exact Nat.le_refl _) (by with_unfolding_all exact info47) (Mst.one _ _ rfl) (fun W2 hBW2 hoW2 => ?_)))
  have hSl : SlRow W1 W1.heap.size 19 (some ⟨w0.heap.size, 0, none⟩) (tm0.insts.map Ins.vals) := fun _ => ⟨w0.heap.size, 0, rfl, hl1, fun k hk => by
    have : k = 0 := by
      have : (tm0.insts.map Ins.vals).length = 1 := rfl
      omega
    subst this
    exact (Blk.box hB1).range⟩
  have H1 : Hid (St w.heap.size w W1 []) := Lib.hid (((St.init w).ext hb0).ext hb1)
  have H2 : Hid (St w.heap.size w W2 [bk W1.heap.size 47 (tm0.vals (.slice (some ⟨w0.heap.size, 0, none⟩) 1 1))]) := Lib.hid ((H1.out.alloc zMst 47).sets (L' := tm0.vals (.slice (some ⟨w0.heap.size, 0, none⟩) 1 1)) hBW2 hoW2)
  obtain ⟨hb8, _⟩ := Only.fresh hoW2
  have HS : Hid (∀ W, Below W2.heap.size W2 W → SlRow W W.heap.size 19 (some ⟨w0.heap.size, 0, none⟩) (tm0.insts.map Ins.vals)) := Lib.hid (fun W hW => by
    have hb := hb8.trans (hW.mono hb8.size)
    exact (hSl.below hb (Nat.le_refl _)).more hb.size)
  generalize w0.heap.size = Q at *
  have HW : Hid (Calls Tryd.prog 20 #[.agg (tm0.vals (.slice (some ⟨Q, 0, none⟩) 1 1)).toArray] W2 fun e w' => e = .returned (.tuple #[.string ⟨tm0.bytes.toArray⟩, .nilIface]) ∧ Below W2.heap.size W2 w') := Lib.hid (mstWrite_ok tm0 (some ⟨Q, 0, none⟩) 1 W2 (HS.out W2 (Below.refl _ _)) Hok.out)
  have HRg : Hid (∀ W, Calls Tryd.prog 22 #[.string ⟨(tm0.bytes ++ [120]).toArray⟩] W fun e w' => ∃ A cap, e = .returned (.tuple #[.agg (tm0.vals (.slice A 1 cap)).toArray, .nilIface]) ∧ SlRow w' w'.heap.size 19 A (tm0.insts.map Ins.vals) ∧ Below W.heap.size W w') := Lib.hid (fun W => mstRead_ok _ _ R (by rw [List.length_append, hbl]; decide) HRd.out HErr.out W)
  obtain ⟨S, hS⟩ : ∃ S, tm0.bytes = S := ⟨_, rfl⟩
  rw [hS] at HW HRg hbl
  have hbli : (S.length : Int) = 118 := by omega
  clear hS hSl H1 hBW2 hoW2 hb8 hB1 hb1 hl1 HRd HErr
  generalize W1.heap.size = P at *
  go_upto_region 3 with (first
    | (with_reducible refine wpList_load_rng (ty := 47) (tm0.vals (.slice (some ⟨Q, 0, none⟩) 1 1)) (by with_unfolding_all rfl) (Blk.box (H2.out.at 0 rfl)).range Tryd.underlying47 (by with_unfolding_all rfl) (by with_unfolding_all exact info47) ?_)
    | ((with_reducible refine HW.out.mono ?_)
       rintro e w3 ⟨rfl, hb3⟩
       have H3 := Lib.hid (H2.out.ext hb3)
       have HB3 := Lib.hid hb3
       clear hb3))
  go_wp2_with fail
  refine (HRg.out _).mono ?_
  rintro e w4 ⟨A, cap, rfl, hsl, hb4⟩
  have Hsl := Lib.hid hsl
  have HB4 := Lib.hid hb4
  have H4 := Lib.hid (H3.out.ext hb4)
  clear hsl hb4 HW HRg H2 H3
  go_upto_region 4 with (first
    | (with_reducible refine wpList_store_blk (ty := 47) (o := 0) _ (tm0.vals (.slice A 1 cap)) (by with_unfolding_all rfl) (by with_unfolding_all rfl) (Blk.new w4 zMst 47) (by with_unfolding_all exact Nat.le_refl _) (by with_unfolding_all exact info47) (Mst.one _ _ rfl) (fun W5 hBW5 hoW5 => ?_)))
  have H5 : Hid (St w.heap.size w W5 [bk w4.heap.size 47 (tm0.vals (.slice A 1 cap)), bk P 47 (tm0.vals (.slice (some ⟨Q, 0, none⟩) 1 1))]) := Lib.hid ((H4.out.alloc zMst 47).sets (L' := tm0.vals (.slice A 1 cap)) hBW5 hoW5)
  obtain ⟨hb5, _⟩ := Only.fresh hoW5
  have HB5 : Hid (Below W2.heap.size W2 W5) := Lib.hid (HB3.out.trans ((HB4.out.mono HB3.out.size).trans (hb5.mono (Nat.le_trans HB3.out.size HB4.out.size))))
  have HS5 := Lib.hid (HS.out W5 HB5.out)
  have HS6 := Lib.hid ((Hsl.out.below hb5 (Nat.le_refl _)).more hb5.size)
  have HSm : Hid (Calls Tryd.prog 23 #[.agg (tm0.vals (.slice (some ⟨Q, 0, none⟩) 1 1)).toArray, .agg (tm0.vals (.slice A 1 cap)).toArray] W5 fun e w' => e = .returned (.bool true) ∧ Below W5.heap.size W5 w') := Lib.hid (mstSame_yes tm0 (some ⟨Q, 0, none⟩) A 1 cap W5 (by decide) HS5.out HS6.out)
  have HRt : Hid (∀ W, Below W5.heap.size W5 W → Calls Tryd.prog 21 #[.agg (tm0.vals (.slice (some ⟨Q, 0, none⟩) 1 1)).toArray] W fun e w' => e = .returned (.bool true) ∧ Below W.heap.size W w') := Lib.hid (fun W hW => by
    have := mstRight_any tm0 (some ⟨Q, 0, none⟩) 1 W ((HS5.out.below hW (Nat.le_refl _)).more hW.size)
    rw [Hok.out] at this
    exact this)
  clear hBW5 hoW5 hb5 HB5 HS5 HS6 HS H4 Hsl HB3 HB4
  generalize w4.heap.size = P4 at *
  go_wp2_with (first
    | (with_reducible refine wpList_load_rngG (ty := 47) (tm0.vals (.slice (some ⟨Q, 0, none⟩) 1 1)) (by with_unfolding_all rfl) (by with_unfolding_all rfl) (Blk.box (H6.out.at 1 rfl)).range Tryd.underlying47 (by with_unfolding_all rfl) (by with_unfolding_all exact info47) ?_)
    | (with_reducible refine wpList_load_rngG (ty := 47) (tm0.vals (.slice (some ⟨Q, 0, none⟩) 1 1)) (by with_unfolding_all rfl) (by with_unfolding_all rfl) (Blk.box (H5.out.at 1 rfl)).range Tryd.underlying47 (by with_unfolding_all rfl) (by with_unfolding_all exact info47) ?_)
    | (with_reducible refine wpList_load_rngG (ty := 47) (tm0.vals (.slice A 1 cap)) (by with_unfolding_all rfl) (by with_unfolding_all rfl) (Blk.box (H5.out.at 0 rfl)).range Tryd.underlying47 (by with_unfolding_all rfl) (by with_unfolding_all exact info47) ?_)
    | ((with_reducible refine HSm.out.mono ?_)
       rintro e w6 ⟨rfl, hb6⟩
       have H6 := Lib.hid (H5.out.ext hb6)
       have HB6 := Lib.hid hb6
       clear hb6)
    | ((with_reducible refine (HRt.out _ HB6.out).mono ?_)
       rintro e w7 ⟨rfl, hb7⟩
       have H7 := Lib.hid (H6.out.ext hb7)
       clear hb7))
  go_ret
  exact ⟨rfl, H7.out.below⟩
end Go.Proofs.YteibhcocldihbaaDoor
namespace Go.Proofs.YteibhcocldihbaaDoor
open Go.RowKit
set_option maxRecDepth 100000 in
set_option maxHeartbeats 8000000 in
theorem law_MstpStill (s : List UInt8) (hs : s.length ≤ 9223372036854775807) (w : World) :
    Calls Tryd.prog 5 #[.string ⟨s.toArray⟩] w fun e w' => e = .returned (.bool true) ∧ Below w.heap.size w w' := by
  have H1 := Lib.hid (St.init w)
  have HA := Lib.hid (treed_any w)
  go_enter Tryd.func5, Tryd.ntmps5
  by_cases hl : 2000 < s.length
  · have hli : (2000 : Int) < (s.length : Int) := by omega
    go_wp2_with (first
      | ((with_reducible refine HA.out.mono ?_)
         rintro e w2 ⟨rfl, hb2⟩
         have H2 := Lib.hid (H1.out.ext hb2)
         clear hb2 HA H1))
    go_ret
    exact ⟨rfl, H2.out.below⟩
  have hli : ¬ (2000 : Int) < (s.length : Int) := by omega
  obtain ⟨m, R, hrd⟩ : ∃ m R, readMstM s = (m, R) := ⟨_, _, rfl⟩
  cases he : R.err with
  | some x =>
    have HR := Lib.hid (fun W => mstRead_no s x (by omega) (by rw [hrd]; exact he) W)
    clear hrd he
    go_wp2_with (first
      | ((with_reducible refine HA.out.mono ?_)
         rintro e w2 ⟨rfl, hb2⟩
         have H2 := Lib.hid (H1.out.ext hb2)
         clear hb2 HA H1))
    refine (HR.out _).mono ?_
    rintro e w3 ⟨g, rfl, hb3⟩
    have H3 := Lib.hid (H2.out.ext hb3)
    clear hb3 HR H2
    go_upto_region 6 with (first
      | (with_reducible refine wpList_store_blk (ty := 47) (o := 0) _ (Mst.vals Mst.zero (.slice none 0 0)) (by with_unfolding_all rfl) (by with_unfolding_all rfl) (Blk.new w3 zMst 47) (by with_unfolding_all exact Nat.le_refl _) (by with_unfolding_all exact info47) (Mst.one _ _ rfl) (fun W4 hBW4 hoW4 => ?_)))
    have H4 : Hid (St w.heap.size w W4 [bk w3.heap.size 47 (Mst.vals Mst.zero (.slice none 0 0))]) := Lib.hid ((H3.out.alloc zMst 47).sets (L' := Mst.vals Mst.zero (.slice none 0 0)) hBW4 hoW4)
    have HSm := Lib.hid (mstSame_yes Mst.zero none none 0 0 W4 (by decide) (fun h => absurd h (by decide)) (fun h => absurd h (by decide)))
    clear hBW4 hoW4 H3
    generalize w3.heap.size = P at *
    go_upto_region 7 with (fail)
    obtain ⟨ZV, hZV⟩ : ∃ ZV, Mst.vals Mst.zero (.slice none 0 0) = ZV := ⟨_, rfl⟩
    have HZB : Hid (Tryd.prog.built 47 [] = some ZV.toArray) := Lib.hid (by rw [← hZV]; exact mst_zero)
    have info47 : (Tryd.prog.info? 47).map (·.size) = some ZV.length := by rw [← hZV]; exact info47
    have HSz : Hid (Calls Tryd.prog 23 #[.agg ZV.toArray, .agg ZV.toArray] W4 fun e w' => e = .returned (.bool true) ∧ Below W4.heap.size W4 w') := Lib.hid (by rw [← hZV]; exact HSm.out)
    rw [hZV] at H4
    clear hZV HSm
    go_wp2_with (first
      | (with_reducible refine wpList_load_rng (ty := 47) ZV (by with_unfolding_all rfl) (Blk.box (H4.out.at 0 rfl)).range Tryd.underlying47 (by with_unfolding_all rfl) (by with_unfolding_all exact info47) ?_)
      | (with_reducible refine wpList_buildA (t := 47) [] ZV (by with_unfolding_all rfl) HZB.out ?_)
      | ((with_reducible refine HSz.out.mono ?_)
         rintro e w5 ⟨rfl, hb5⟩
         have H5 := Lib.hid (H4.out.ext hb5)
         clear hb5))
    go_ret
    exact ⟨rfl, H5.out.below⟩
  | none =>
    obtain ⟨hok, hle⟩ := readMst_back s (by omega) (by rw [hrd]; exact he)
    rw [hrd] at hok hle
    simp only [] at hok hle
    obtain ⟨R2, hrd2, he2⟩ := readMst_bytes m [] hok (by rw [List.append_nil]; omega)
    rw [List.append_nil] at hrd2
    have hil := (Mst.ok_iff.1 hok).il
    have HR := Lib.hid (fun W => mstRead_ok s m R (by omega) hrd he W)
    have HR2 := Lib.hid (fun W => mstRead_ok m.bytes m R2 (by omega) hrd2 he2 W)
    have Hok := Lib.hid hok
    have hlei : (m.bytes.length : Int) ≤ (s.length : Int) := by omega
    clear hrd he hok hrd2 he2 hle
    go_wp2_with (first
      | ((with_reducible refine HA.out.mono ?_)
         rintro e w2 ⟨rfl, hb2⟩
         have H2 := Lib.hid (H1.out.ext hb2)
         clear hb2 HA H1))
    refine (HR.out _).mono ?_
    rintro e w3 ⟨A, cap, rfl, hsl, hb3⟩
    have H3 := Lib.hid (H2.out.ext hb3)
    have Hsl := Lib.hid hsl
    clear hb3 HR H2 hsl
    go_upto_region 6 with (first
      | (with_reducible refine wpList_store_blk (ty := 47) (o := 0) _ (m.vals (.slice A m.insts.length cap)) (by with_unfolding_all rfl) (by with_unfolding_all rfl) (Blk.new w3 zMst 47) (by with_unfolding_all exact Nat.le_refl _) (by with_unfolding_all exact info47) (Mst.one _ _ rfl) (fun W4 hBW4 hoW4 => ?_)))
    have H4 : Hid (St w.heap.size w W4 [bk w3.heap.size 47 (m.vals (.slice A m.insts.length cap))]) := Lib.hid ((H3.out.alloc zMst 47).sets (L' := m.vals (.slice A m.insts.length cap)) hBW4 hoW4)
    obtain ⟨hb4, _⟩ := Only.fresh hoW4
    have HS4 : Hid (∀ W, Below W4.heap.size W4 W → SlRow W W.heap.size 19 A (m.insts.map Ins.vals)) := Lib.hid (fun W hW => by
      have hb := hb4.trans (hW.mono hb4.size)
      exact (Hsl.out.below hb (Nat.le_refl _)).more hb.size)
    have HW : Hid (Calls Tryd.prog 20 #[.agg (m.vals (.slice A m.insts.length cap)).toArray] W4 fun e w' => e = .returned (.tuple #[.string ⟨m.bytes.toArray⟩, .nilIface]) ∧ Below W4.heap.size W4 w') := Lib.hid (mstWrite_ok m A cap W4 (HS4.out W4 (Below.refl _ _)) Hok.out)
    have HRt : Hid (∀ W, Below W4.heap.size W4 W → Calls Tryd.prog 21 #[.agg (m.vals (.slice A m.insts.length cap)).toArray] W fun e w' => e = .returned (.bool true) ∧ Below W.heap.size W w') := Lib.hid (fun W hW => by
      have := mstRight_any m A cap W (HS4.out W hW)
      rw [Hok.out] at this
      exact this)
    have HSm : Hid (∀ W A2 c2, Below W4.heap.size W4 W → SlRow W W.heap.size 19 A2 (m.insts.map Ins.vals) → Calls Tryd.prog 23 #[.agg (m.vals (.slice A m.insts.length cap)).toArray, .agg (m.vals (.slice A2 m.insts.length c2)).toArray] W fun e w' => e = .returned (.bool true) ∧ Below W.heap.size W w') := Lib.hid (fun W A2 c2 hW h => mstSame_yes m A A2 cap c2 W (by omega) (HS4.out W hW) h)
    obtain ⟨VV, hVV⟩ : ∃ VV, m.vals (.slice A m.insts.length cap) = VV := ⟨_, rfl⟩
    have HV1 : Hid (∀ v ∈ VV, v.oneCell' = true) := Lib.hid (by rw [← hVV]; exact Mst.one _ _ rfl)
    have IV : Hid ((Tryd.prog.info? 47).map (·.size) = some VV.length) := Lib.hid (by rw [← hVV]; exact info47)
    have hvl : VV.length = 45 := by rw [← hVV]; rfl
    rw [hVV] at H4 HW HRt HSm
    clear hBW4 hoW4 hb4 H3 Hsl HS4 hVV
    generalize w3.heap.size = P at *
    generalize m.bytes = S at *
    go_upto_region 9 with (first
      | (with_reducible refine wpList_load_rng (ty := 47) VV (by with_unfolding_all rfl) (Blk.box (H4.out.at 0 rfl)).range Tryd.underlying47 (by with_unfolding_all rfl) IV.out ?_)
      | ((with_reducible refine HW.out.mono ?_)
         rintro e w5 ⟨rfl, hb5⟩
         have H5 := Lib.hid (H4.out.ext hb5)
         have HB5 := Lib.hid hb5
         clear hb5))
    go_wp2_with fail
    refine (HR2.out _).mono ?_
    rintro e w6 ⟨A2, c2, rfl, hsl2, hb6⟩
    have H6 := Lib.hid (H5.out.ext hb6)
    have HB6 := Lib.hid (HB5.out.trans (hb6.mono HB5.out.size))
    have Hsl2 := Lib.hid hsl2
    clear hb6 HR2 hsl2 H5 H4 HW HB5
    go_upto_region 10 with (first
      | (with_reducible refine wpList_store_blk (ty := 47) (o := 0) _ (m.vals (.slice A2 m.insts.length c2)) (by with_unfolding_all rfl) (by with_unfolding_all rfl) (Blk.new w6 zMst 47) (by with_unfolding_all exact Nat.le_refl _) (by with_unfolding_all exact info47) (Mst.one _ _ rfl) (fun W7 hBW7 hoW7 => ?_)))
    have H7 : Hid (St w.heap.size w W7 [bk w6.heap.size 47 (m.vals (.slice A2 m.insts.length c2)), bk P 47 VV]) := Lib.hid ((H6.out.alloc zMst 47).sets (L' := m.vals (.slice A2 m.insts.length c2)) hBW7 hoW7)
    obtain ⟨hb7, _⟩ := Only.fresh hoW7
    have HB7 := Lib.hid (HB6.out.trans (hb7.mono HB6.out.size))
    have K1 := Lib.hid (HSm.out W7 A2 c2 HB7.out ((Hsl2.out.below hb7 (Nat.le_refl _)).more hb7.size))
    clear hBW7 hoW7 hb7 Hsl2 H6 HB6 HSm
    generalize w6.heap.size = P6 at *
    obtain ⟨V2, hV2⟩ : ∃ V2, m.vals (.slice A2 m.insts.length c2) = V2 := ⟨_, rfl⟩
    have hv2 : V2.length = VV.length := by rw [hvl, ← hV2]; rfl
    rw [hV2] at H7 K1
    have Hv2 := Lib.hid hv2
    clear hV2 hv2 hvl
    have info2 : Hid ((Tryd.prog.info? 47).map (·.size) = some V2.length) := Lib.hid (by rw [Hv2.out]; exact IV.out)
    go_wp2_with (first
      | (with_reducible refine wpList_load_rngG (ty := 47) VV (by with_unfolding_all rfl) (by with_unfolding_all rfl) (Blk.box (H8.out.at 1 rfl)).range Tryd.underlying47 (by with_unfolding_all rfl) IV.out ?_)
      | (with_reducible refine wpList_load_rngG (ty := 47) VV (by with_unfolding_all rfl) (by with_unfolding_all rfl) (Blk.box (H7.out.at 1 rfl)).range Tryd.underlying47 (by with_unfolding_all rfl) IV.out ?_)
      | (with_reducible refine wpList_load_rngG (ty := 47) V2 (by with_unfolding_all rfl) (by with_unfolding_all rfl) (Blk.box (H7.out.at 0 rfl)).range Tryd.underlying47 (by with_unfolding_all rfl) info2.out ?_)
      | ((with_reducible refine K1.out.mono ?_)
         rintro e w8 ⟨rfl, hb8⟩
         have H8 := Lib.hid (H7.out.ext hb8)
         have HB8 := Lib.hid (HB7.out.trans (hb8.mono HB7.out.size))
         clear hb8)
      | ((with_reducible refine (HRt.out _ HB8.out).mono ?_)
         rintro e w9 ⟨rfl, hb9⟩
         have H9 := Lib.hid (H8.out.ext hb9)
         clear hb9))
    go_ret
    exact ⟨rfl, H9.out.below⟩
end Go.Proofs.YteibhcocldihbaaDoor

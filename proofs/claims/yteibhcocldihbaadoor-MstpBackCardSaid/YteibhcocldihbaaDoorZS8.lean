/- mstp: Right. The sum of two texts as an operation of a drawn region. mstp.Write. Rows of one's own as items; 'append' onto them; one world's items behind another's. Over any program. '[]T{x}' of one value. -/
import Derived.Test.YteibhcocldihbaaDoorZS7
import Derived.Test.YteibhcocldihbaaDoorZS3
import Derived.Test.YteibhcocldihbaaDoorKit
import Derived.Test.YteibhcocldihbaaDoorZS6
import Derived.Test.YteibhcocldihbaaDoorZS4
import Derived.Test.YteibhcocldihbaaDoorZS2
import Derived.Deep.AppendLies
import Derived.Test.YteibhcocldihbaaDoorZS1
set_option linter.all false
namespace Go.Proofs.YteibhcocldihbaaDoor
open Go.RowKit
set_option maxRecDepth 100000 in
set_option maxHeartbeats 4000000 in
theorem mr_8 (b : Bp) (nm : List UInt8) (rv : Int) (dg : List UInt8) (co : Int) (br : Br) (ho : Int) (L : List Ins) (A : Option Addr) (cap : Nat) (w : World) (hk : b.kind = 3) (hq1 : b.okB = true) (n32 : nm.length ≤ 32) (hq2 : endsNought nm = false) (rr0 : 0 ≤ rv) (rr1 : rv ≤ 65535) (hd : dg.length = 16) (cc0 : 0 ≤ co) (cc1 : ¬ co < 4294967296) :
    Calls Tryd.prog 21 #[.agg (Mst.vals ⟨b, nm, rv, dg, co, br, ho, L⟩ (.slice A L.length cap)).toArray] w fun e w' => e = .returned (.bool (false)) ∧ Below w.heap.size w w' := by
  obtain ⟨ap, ae, ⟨a0, a1, a2, a3, a4, a5⟩⟩ := br
  have H0 := Lib.hid ((St.init w).alloc (Mst.vals ⟨b, nm, rv, dg, co, ⟨ap, ae, ⟨a0, a1, a2, a3, a4, a5⟩⟩, ho, L⟩ (.slice A L.length cap)) 47)
  have HC : Hid (∀ W, St w.heap.size w W [bk w.heap.size 47 (Mst.vals ⟨b, nm, rv, dg, co, ⟨ap, ae, ⟨a0, a1, a2, a3, a4, a5⟩⟩, ho, L⟩ (.slice A L.length cap))] → W.cell? ⟨w.heap.size, 31, none⟩ = some (.string ⟨nm.toArray⟩) ∧ W.cell? ⟨w.heap.size, 32, none⟩ = some (.int .i64 rv) ∧ W.cell? ⟨w.heap.size, 33, none⟩ = some (.string ⟨dg.toArray⟩) ∧ W.cell? ⟨w.heap.size, 34, none⟩ = some (.int .i64 co) ∧ W.cell? ⟨w.heap.size, 35, none⟩ = some (.int .i64 ap) ∧ W.cell? ⟨w.heap.size, 36, none⟩ = some (.int .i64 ae) ∧ W.cell? ⟨w.heap.size, 37, none⟩ = some (.int .u8 a0.toNat) ∧ W.cell? ⟨w.heap.size, 38, none⟩ = some (.int .u8 a1.toNat) ∧ W.cell? ⟨w.heap.size, 39, none⟩ = some (.int .u8 a2.toNat) ∧ W.cell? ⟨w.heap.size, 40, none⟩ = some (.int .u8 a3.toNat) ∧ W.cell? ⟨w.heap.size, 41, none⟩ = some (.int .u8 a4.toNat) ∧ W.cell? ⟨w.heap.size, 42, none⟩ = some (.int .u8 a5.toNat) ∧ W.cell? ⟨w.heap.size, 43, none⟩ = some (.int .i64 ho) ∧ W.cell? ⟨w.heap.size, 44, none⟩ = some (.slice A L.length cap)) := Lib.hid (fun W h => by
    have B := Blk.box (h.at 0 rfl)
    exact ⟨B.cell 31, B.cell 32, B.cell 33, B.cell 34, B.cell 35, B.cell 36, B.cell 37, B.cell 38, B.cell 39, B.cell 40, B.cell 41, B.cell 42, B.cell 43, B.cell 44⟩)
  have I0 := mst_in (Blk.box (H0.out.at 0 rfl))
  have k0 := I0.kind
  have R0 := Lib.hid I0.base
  clear I0
  have HB : Hid (∀ W, Calls Tryd.prog 60 #[.agg b.vals.toArray] W fun e w' => e = .returned (.bool true) ∧ Below W.heap.size W w') := Lib.hid (fun W => by
    have := bpRight_any b W
    rw [hq1] at this
    exact this)
  clear hq1
  simp only [hk] at k0
  clear hk
  have HN : Hid (∀ W, Calls Tryd.prog 61 #[.string ⟨nm.toArray⟩, .string ⟨#[0]⟩] W fun e w' => e = .returned (.bool false) ∧ w' = W) := Lib.hid (fun W => by
    have := Tryd.strings_HasSuffix ⟨nm.toArray⟩ ⟨#[0]⟩ W (by show nm.toArray.size ≤ _; rw [List.size_toArray]; omega)
    rw [show Lib.hasSuffix nm [0] = endsNought nm from suffix_nought nm, hq2] at this
    exact this)
  have ed : ((dg.length : Int) == 16) = true := by simp [hd]
  go_enter Tryd.func21, Tryd.ntmps21
  go_upto_region 1 with (fail)
  generalize World.alloc _ _ = w0 at *
  go_step
  dsimp only [List.append]
  go_wp2_with (first
    | (with_reducible refine wpList_load_rngG (ty := 44) b.vals (by with_unfolding_all rfl) (by with_unfolding_all rfl) R0.out Tryd.underlying44 (by with_unfolding_all rfl) (by with_unfolding_all exact info44) ?_)
    | ((with_reducible refine (HB.out _).mono ?_)
       rintro e w1 ⟨rfl, hb1⟩
       have H1 := Lib.hid (H0.out.ext hb1)
       obtain ⟨k31, k32, k33, k34, k35, k36, k37, k38, k39, k40, k41, k42, k43, k44⟩ := HC.out _ H1.out
       clear hb1 k0)
    | ((with_reducible refine (HN.out _).mono ?_)
       rintro e w2 ⟨rfl, rfl⟩
       skip))
  go_ret
  exact ⟨rfl, H1.out.below⟩
set_option maxRecDepth 100000 in
set_option maxHeartbeats 4000000 in
theorem mr_9 (b : Bp) (nm : List UInt8) (rv : Int) (dg : List UInt8) (co : Int) (br : Br) (ho : Int) (L : List Ins) (A : Option Addr) (cap : Nat) (w : World) (hk : b.kind = 3) (hq1 : b.okB = true) (n32 : nm.length ≤ 32) (hq2 : endsNought nm = false) (rr0 : 0 ≤ rv) (rr1 : rv ≤ 65535) (hd : dg.length = 16) (cc0 : 0 ≤ co) (cc1 : co < 4294967296) (hq3 : br.okB = false) :
    Calls Tryd.prog 21 #[.agg (Mst.vals ⟨b, nm, rv, dg, co, br, ho, L⟩ (.slice A L.length cap)).toArray] w fun e w' => e = .returned (.bool (false)) ∧ Below w.heap.size w w' := by
  obtain ⟨ap, ae, ⟨a0, a1, a2, a3, a4, a5⟩⟩ := br
  have H0 := Lib.hid ((St.init w).alloc (Mst.vals ⟨b, nm, rv, dg, co, ⟨ap, ae, ⟨a0, a1, a2, a3, a4, a5⟩⟩, ho, L⟩ (.slice A L.length cap)) 47)
  have HC : Hid (∀ W, St w.heap.size w W [bk w.heap.size 47 (Mst.vals ⟨b, nm, rv, dg, co, ⟨ap, ae, ⟨a0, a1, a2, a3, a4, a5⟩⟩, ho, L⟩ (.slice A L.length cap))] → W.cell? ⟨w.heap.size, 31, none⟩ = some (.string ⟨nm.toArray⟩) ∧ W.cell? ⟨w.heap.size, 32, none⟩ = some (.int .i64 rv) ∧ W.cell? ⟨w.heap.size, 33, none⟩ = some (.string ⟨dg.toArray⟩) ∧ W.cell? ⟨w.heap.size, 34, none⟩ = some (.int .i64 co) ∧ W.cell? ⟨w.heap.size, 35, none⟩ = some (.int .i64 ap) ∧ W.cell? ⟨w.heap.size, 36, none⟩ = some (.int .i64 ae) ∧ W.cell? ⟨w.heap.size, 37, none⟩ = some (.int .u8 a0.toNat) ∧ W.cell? ⟨w.heap.size, 38, none⟩ = some (.int .u8 a1.toNat) ∧ W.cell? ⟨w.heap.size, 39, none⟩ = some (.int .u8 a2.toNat) ∧ W.cell? ⟨w.heap.size, 40, none⟩ = some (.int .u8 a3.toNat) ∧ W.cell? ⟨w.heap.size, 41, none⟩ = some (.int .u8 a4.toNat) ∧ W.cell? ⟨w.heap.size, 42, none⟩ = some (.int .u8 a5.toNat) ∧ W.cell? ⟨w.heap.size, 43, none⟩ = some (.int .i64 ho) ∧ W.cell? ⟨w.heap.size, 44, none⟩ = some (.slice A L.length cap)) := Lib.hid (fun W h => by
    have B := Blk.box (h.at 0 rfl)
    exact ⟨B.cell 31, B.cell 32, B.cell 33, B.cell 34, B.cell 35, B.cell 36, B.cell 37, B.cell 38, B.cell 39, B.cell 40, B.cell 41, B.cell 42, B.cell 43, B.cell 44⟩)
  have I0 := mst_in (Blk.box (H0.out.at 0 rfl))
  have k0 := I0.kind
  have R0 := Lib.hid I0.base
  clear I0
  have HB : Hid (∀ W, Calls Tryd.prog 60 #[.agg b.vals.toArray] W fun e w' => e = .returned (.bool true) ∧ Below W.heap.size W w') := Lib.hid (fun W => by
    have := bpRight_any b W
    rw [hq1] at this
    exact this)
  clear hq1
  simp only [hk] at k0
  clear hk
  have HN : Hid (∀ W, Calls Tryd.prog 61 #[.string ⟨nm.toArray⟩, .string ⟨#[0]⟩] W fun e w' => e = .returned (.bool false) ∧ w' = W) := Lib.hid (fun W => by
    have := Tryd.strings_HasSuffix ⟨nm.toArray⟩ ⟨#[0]⟩ W (by show nm.toArray.size ≤ _; rw [List.size_toArray]; omega)
    rw [show Lib.hasSuffix nm [0] = endsNought nm from suffix_nought nm, hq2] at this
    exact this)
  have ed : ((dg.length : Int) == 16) = true := by simp [hd]
  have HR : Hid (∀ W, Calls Tryd.prog 62 #[.agg #[.int .i64 ap, .int .i64 ae, .int .u8 a0.toNat, .int .u8 a1.toNat, .int .u8 a2.toNat, .int .u8 a3.toNat, .int .u8 a4.toNat, .int .u8 a5.toNat]] W fun e w' => e = .returned (.bool false) ∧ Below W.heap.size W w') := Lib.hid (fun W => by
    have := prioRight_any ⟨ap, ae, ⟨a0, a1, a2, a3, a4, a5⟩⟩ W
    rw [hq3] at this
    exact this)
  clear hq3
  go_enter Tryd.func21, Tryd.ntmps21
  go_upto_region 1 with (fail)
  generalize World.alloc _ _ = w0 at *
  go_step
  dsimp only [List.append]
  go_wp2_with (first
    | (with_reducible refine wpList_load_rngG (ty := 44) b.vals (by with_unfolding_all rfl) (by with_unfolding_all rfl) R0.out Tryd.underlying44 (by with_unfolding_all rfl) (by with_unfolding_all exact info44) ?_)
    | ((with_reducible refine (HB.out _).mono ?_)
       rintro e w1 ⟨rfl, hb1⟩
       have H1 := Lib.hid (H0.out.ext hb1)
       obtain ⟨k31, k32, k33, k34, k35, k36, k37, k38, k39, k40, k41, k42, k43, k44⟩ := HC.out _ H1.out
       clear hb1 k0)
    | ((with_reducible refine (HN.out _).mono ?_)
       rintro e w2 ⟨rfl, rfl⟩
       skip)
    | ((with_reducible refine (HR.out _).mono ?_)
       rintro e w3 ⟨rfl, hb3⟩
       have H3 := Lib.hid (H1.out.ext hb3)
       obtain ⟨k31, k32, k33, k34, k35, k36, k37, k38, k39, k40, k41, k42, k43, k44⟩ := HC.out _ H3.out
       clear hb3))
  go_ret
  exact ⟨rfl, H3.out.below⟩
set_option maxRecDepth 100000 in
set_option maxHeartbeats 4000000 in
theorem mr_10 (b : Bp) (nm : List UInt8) (rv : Int) (dg : List UInt8) (co : Int) (br : Br) (ho : Int) (L : List Ins) (A : Option Addr) (cap : Nat) (w : World) (hk : b.kind = 3) (hq1 : b.okB = true) (n32 : nm.length ≤ 32) (hq2 : endsNought nm = false) (rr0 : 0 ≤ rv) (rr1 : rv ≤ 65535) (hd : dg.length = 16) (cc0 : 0 ≤ co) (cc1 : co < 4294967296) (hq3 : br.okB = true) (hh0 : ¬ 0 ≤ ho) :
    Calls Tryd.prog 21 #[.agg (Mst.vals ⟨b, nm, rv, dg, co, br, ho, L⟩ (.slice A L.length cap)).toArray] w fun e w' => e = .returned (.bool (false)) ∧ Below w.heap.size w w' := by
  obtain ⟨ap, ae, ⟨a0, a1, a2, a3, a4, a5⟩⟩ := br
  have H0 := Lib.hid ((St.init w).alloc (Mst.vals ⟨b, nm, rv, dg, co, ⟨ap, ae, ⟨a0, a1, a2, a3, a4, a5⟩⟩, ho, L⟩ (.slice A L.length cap)) 47)
  have HC : Hid (∀ W, St w.heap.size w W [bk w.heap.size 47 (Mst.vals ⟨b, nm, rv, dg, co, ⟨ap, ae, ⟨a0, a1, a2, a3, a4, a5⟩⟩, ho, L⟩ (.slice A L.length cap))] → W.cell? ⟨w.heap.size, 31, none⟩ = some (.string ⟨nm.toArray⟩) ∧ W.cell? ⟨w.heap.size, 32, none⟩ = some (.int .i64 rv) ∧ W.cell? ⟨w.heap.size, 33, none⟩ = some (.string ⟨dg.toArray⟩) ∧ W.cell? ⟨w.heap.size, 34, none⟩ = some (.int .i64 co) ∧ W.cell? ⟨w.heap.size, 35, none⟩ = some (.int .i64 ap) ∧ W.cell? ⟨w.heap.size, 36, none⟩ = some (.int .i64 ae) ∧ W.cell? ⟨w.heap.size, 37, none⟩ = some (.int .u8 a0.toNat) ∧ W.cell? ⟨w.heap.size, 38, none⟩ = some (.int .u8 a1.toNat) ∧ W.cell? ⟨w.heap.size, 39, none⟩ = some (.int .u8 a2.toNat) ∧ W.cell? ⟨w.heap.size, 40, none⟩ = some (.int .u8 a3.toNat) ∧ W.cell? ⟨w.heap.size, 41, none⟩ = some (.int .u8 a4.toNat) ∧ W.cell? ⟨w.heap.size, 42, none⟩ = some (.int .u8 a5.toNat) ∧ W.cell? ⟨w.heap.size, 43, none⟩ = some (.int .i64 ho) ∧ W.cell? ⟨w.heap.size, 44, none⟩ = some (.slice A L.length cap)) := Lib.hid (fun W h => by
    have B := Blk.box (h.at 0 rfl)
    exact ⟨B.cell 31, B.cell 32, B.cell 33, B.cell 34, B.cell 35, B.cell 36, B.cell 37, B.cell 38, B.cell 39, B.cell 40, B.cell 41, B.cell 42, B.cell 43, B.cell 44⟩)
  have I0 := mst_in (Blk.box (H0.out.at 0 rfl))
  have k0 := I0.kind
  have R0 := Lib.hid I0.base
  clear I0
  have HB : Hid (∀ W, Calls Tryd.prog 60 #[.agg b.vals.toArray] W fun e w' => e = .returned (.bool true) ∧ Below W.heap.size W w') := Lib.hid (fun W => by
    have := bpRight_any b W
    rw [hq1] at this
    exact this)
  clear hq1
  simp only [hk] at k0
  clear hk
  have HN : Hid (∀ W, Calls Tryd.prog 61 #[.string ⟨nm.toArray⟩, .string ⟨#[0]⟩] W fun e w' => e = .returned (.bool false) ∧ w' = W) := Lib.hid (fun W => by
    have := Tryd.strings_HasSuffix ⟨nm.toArray⟩ ⟨#[0]⟩ W (by show nm.toArray.size ≤ _; rw [List.size_toArray]; omega)
    rw [show Lib.hasSuffix nm [0] = endsNought nm from suffix_nought nm, hq2] at this
    exact this)
  have ed : ((dg.length : Int) == 16) = true := by simp [hd]
  have HR : Hid (∀ W, Calls Tryd.prog 62 #[.agg #[.int .i64 ap, .int .i64 ae, .int .u8 a0.toNat, .int .u8 a1.toNat, .int .u8 a2.toNat, .int .u8 a3.toNat, .int .u8 a4.toNat, .int .u8 a5.toNat]] W fun e w' => e = .returned (.bool true) ∧ Below W.heap.size W w') := Lib.hid (fun W => by
    have := prioRight_any ⟨ap, ae, ⟨a0, a1, a2, a3, a4, a5⟩⟩ W
    rw [hq3] at this
    exact this)
  clear hq3
  go_enter Tryd.func21, Tryd.ntmps21
  go_upto_region 1 with (fail)
  generalize World.alloc _ _ = w0 at *
  go_step
  dsimp only [List.append]
  go_wp2_with (first
    | (with_reducible refine wpList_load_rngG (ty := 44) b.vals (by with_unfolding_all rfl) (by with_unfolding_all rfl) R0.out Tryd.underlying44 (by with_unfolding_all rfl) (by with_unfolding_all exact info44) ?_)
    | ((with_reducible refine (HB.out _).mono ?_)
       rintro e w1 ⟨rfl, hb1⟩
       have H1 := Lib.hid (H0.out.ext hb1)
       obtain ⟨k31, k32, k33, k34, k35, k36, k37, k38, k39, k40, k41, k42, k43, k44⟩ := HC.out _ H1.out
       clear hb1 k0)
    | ((with_reducible refine (HN.out _).mono ?_)
       rintro e w2 ⟨rfl, rfl⟩
       skip)
    | ((with_reducible refine (HR.out _).mono ?_)
       rintro e w3 ⟨rfl, hb3⟩
       have H3 := Lib.hid (H1.out.ext hb3)
       obtain ⟨k31, k32, k33, k34, k35, k36, k37, k38, k39, k40, k41, k42, k43, k44⟩ := HC.out _ H3.out
       clear hb3))
  go_ret
  exact ⟨rfl, H3.out.below⟩
set_option maxRecDepth 100000 in
set_option maxHeartbeats 4000000 in
theorem mr_11 (b : Bp) (nm : List UInt8) (rv : Int) (dg : List UInt8) (co : Int) (br : Br) (ho : Int) (L : List Ins) (A : Option Addr) (cap : Nat) (w : World) (hk : b.kind = 3) (hq1 : b.okB = true) (n32 : nm.length ≤ 32) (hq2 : endsNought nm = false) (rr0 : 0 ≤ rv) (rr1 : rv ≤ 65535) (hd : dg.length = 16) (cc0 : 0 ≤ co) (cc1 : co < 4294967296) (hq3 : br.okB = true) (hh0 : 0 ≤ ho) (hh1 : ¬ ho ≤ 255) :
    Calls Tryd.prog 21 #[.agg (Mst.vals ⟨b, nm, rv, dg, co, br, ho, L⟩ (.slice A L.length cap)).toArray] w fun e w' => e = .returned (.bool (false)) ∧ Below w.heap.size w w' := by
  obtain ⟨ap, ae, ⟨a0, a1, a2, a3, a4, a5⟩⟩ := br
  have H0 := Lib.hid ((St.init w).alloc (Mst.vals ⟨b, nm, rv, dg, co, ⟨ap, ae, ⟨a0, a1, a2, a3, a4, a5⟩⟩, ho, L⟩ (.slice A L.length cap)) 47)
  have HC : Hid (∀ W, St w.heap.size w W [bk w.heap.size 47 (Mst.vals ⟨b, nm, rv, dg, co, ⟨ap, ae, ⟨a0, a1, a2, a3, a4, a5⟩⟩, ho, L⟩ (.slice A L.length cap))] → W.cell? ⟨w.heap.size, 31, none⟩ = some (.string ⟨nm.toArray⟩) ∧ W.cell? ⟨w.heap.size, 32, none⟩ = some (.int .i64 rv) ∧ W.cell? ⟨w.heap.size, 33, none⟩ = some (.string ⟨dg.toArray⟩) ∧ W.cell? ⟨w.heap.size, 34, none⟩ = some (.int .i64 co) ∧ W.cell? ⟨w.heap.size, 35, none⟩ = some (.int .i64 ap) ∧ W.cell? ⟨w.heap.size, 36, none⟩ = some (.int .i64 ae) ∧ W.cell? ⟨w.heap.size, 37, none⟩ = some (.int .u8 a0.toNat) ∧ W.cell? ⟨w.heap.size, 38, none⟩ = some (.int .u8 a1.toNat) ∧ W.cell? ⟨w.heap.size, 39, none⟩ = some (.int .u8 a2.toNat) ∧ W.cell? ⟨w.heap.size, 40, none⟩ = some (.int .u8 a3.toNat) ∧ W.cell? ⟨w.heap.size, 41, none⟩ = some (.int .u8 a4.toNat) ∧ W.cell? ⟨w.heap.size, 42, none⟩ = some (.int .u8 a5.toNat) ∧ W.cell? ⟨w.heap.size, 43, none⟩ = some (.int .i64 ho) ∧ W.cell? ⟨w.heap.size, 44, none⟩ = some (.slice A L.length cap)) := Lib.hid (fun W h => by
    have B := Blk.box (h.at 0 rfl)
    exact ⟨B.cell 31, B.cell 32, B.cell 33, B.cell 34, B.cell 35, B.cell 36, B.cell 37, B.cell 38, B.cell 39, B.cell 40, B.cell 41, B.cell 42, B.cell 43, B.cell 44⟩)
  have I0 := mst_in (Blk.box (H0.out.at 0 rfl))
  have k0 := I0.kind
  have R0 := Lib.hid I0.base
  clear I0
  have HB : Hid (∀ W, Calls Tryd.prog 60 #[.agg b.vals.toArray] W fun e w' => e = .returned (.bool true) ∧ Below W.heap.size W w') := Lib.hid (fun W => by
    have := bpRight_any b W
    rw [hq1] at this
    exact this)
  clear hq1
  simp only [hk] at k0
  clear hk
  have HN : Hid (∀ W, Calls Tryd.prog 61 #[.string ⟨nm.toArray⟩, .string ⟨#[0]⟩] W fun e w' => e = .returned (.bool false) ∧ w' = W) := Lib.hid (fun W => by
    have := Tryd.strings_HasSuffix ⟨nm.toArray⟩ ⟨#[0]⟩ W (by show nm.toArray.size ≤ _; rw [List.size_toArray]; omega)
    rw [show Lib.hasSuffix nm [0] = endsNought nm from suffix_nought nm, hq2] at this
    exact this)
  have ed : ((dg.length : Int) == 16) = true := by simp [hd]
  have HR : Hid (∀ W, Calls Tryd.prog 62 #[.agg #[.int .i64 ap, .int .i64 ae, .int .u8 a0.toNat, .int .u8 a1.toNat, .int .u8 a2.toNat, .int .u8 a3.toNat, .int .u8 a4.toNat, .int .u8 a5.toNat]] W fun e w' => e = .returned (.bool true) ∧ Below W.heap.size W w') := Lib.hid (fun W => by
    have := prioRight_any ⟨ap, ae, ⟨a0, a1, a2, a3, a4, a5⟩⟩ W
    rw [hq3] at this
    exact this)
  clear hq3
  go_enter Tryd.func21, Tryd.ntmps21
  go_upto_region 1 with (fail)
  generalize World.alloc _ _ = w0 at *
  go_step
  dsimp only [List.append]
  go_wp2_with (first
    | (with_reducible refine wpList_load_rngG (ty := 44) b.vals (by with_unfolding_all rfl) (by with_unfolding_all rfl) R0.out Tryd.underlying44 (by with_unfolding_all rfl) (by with_unfolding_all exact info44) ?_)
    | ((with_reducible refine (HB.out _).mono ?_)
       rintro e w1 ⟨rfl, hb1⟩
       have H1 := Lib.hid (H0.out.ext hb1)
       obtain ⟨k31, k32, k33, k34, k35, k36, k37, k38, k39, k40, k41, k42, k43, k44⟩ := HC.out _ H1.out
       clear hb1 k0)
    | ((with_reducible refine (HN.out _).mono ?_)
       rintro e w2 ⟨rfl, rfl⟩
       skip)
    | ((with_reducible refine (HR.out _).mono ?_)
       rintro e w3 ⟨rfl, hb3⟩
       have H3 := Lib.hid (H1.out.ext hb3)
       obtain ⟨k31, k32, k33, k34, k35, k36, k37, k38, k39, k40, k41, k42, k43, k44⟩ := HC.out _ H3.out
       clear hb3))
  go_ret
  exact ⟨rfl, H3.out.below⟩
set_option maxRecDepth 100000 in
set_option maxHeartbeats 4000000 in
theorem mr_12 (b : Bp) (nm : List UInt8) (rv : Int) (dg : List UInt8) (co : Int) (br : Br) (ho : Int) (L : List Ins) (A : Option Addr) (cap : Nat) (w : World) (hk : b.kind = 3) (hq1 : b.okB = true) (n32 : nm.length ≤ 32) (hq2 : endsNought nm = false) (rr0 : 0 ≤ rv) (rr1 : rv ≤ 65535) (hd : dg.length = 16) (cc0 : 0 ≤ co) (cc1 : co < 4294967296) (hq3 : br.okB = true) (hh0 : 0 ≤ ho) (hh1 : ho ≤ 255) (i64 : ¬ L.length ≤ 64) :
    Calls Tryd.prog 21 #[.agg (Mst.vals ⟨b, nm, rv, dg, co, br, ho, L⟩ (.slice A L.length cap)).toArray] w fun e w' => e = .returned (.bool (false)) ∧ Below w.heap.size w w' := by
  obtain ⟨ap, ae, ⟨a0, a1, a2, a3, a4, a5⟩⟩ := br
  have H0 := Lib.hid ((St.init w).alloc (Mst.vals ⟨b, nm, rv, dg, co, ⟨ap, ae, ⟨a0, a1, a2, a3, a4, a5⟩⟩, ho, L⟩ (.slice A L.length cap)) 47)
  have HC : Hid (∀ W, St w.heap.size w W [bk w.heap.size 47 (Mst.vals ⟨b, nm, rv, dg, co, ⟨ap, ae, ⟨a0, a1, a2, a3, a4, a5⟩⟩, ho, L⟩ (.slice A L.length cap))] → W.cell? ⟨w.heap.size, 31, none⟩ = some (.string ⟨nm.toArray⟩) ∧ W.cell? ⟨w.heap.size, 32, none⟩ = some (.int .i64 rv) ∧ W.cell? ⟨w.heap.size, 33, none⟩ = some (.string ⟨dg.toArray⟩) ∧ W.cell? ⟨w.heap.size, 34, none⟩ = some (.int .i64 co) ∧ W.cell? ⟨w.heap.size, 35, none⟩ = some (.int .i64 ap) ∧ W.cell? ⟨w.heap.size, 36, none⟩ = some (.int .i64 ae) ∧ W.cell? ⟨w.heap.size, 37, none⟩ = some (.int .u8 a0.toNat) ∧ W.cell? ⟨w.heap.size, 38, none⟩ = some (.int .u8 a1.toNat) ∧ W.cell? ⟨w.heap.size, 39, none⟩ = some (.int .u8 a2.toNat) ∧ W.cell? ⟨w.heap.size, 40, none⟩ = some (.int .u8 a3.toNat) ∧ W.cell? ⟨w.heap.size, 41, none⟩ = some (.int .u8 a4.toNat) ∧ W.cell? ⟨w.heap.size, 42, none⟩ = some (.int .u8 a5.toNat) ∧ W.cell? ⟨w.heap.size, 43, none⟩ = some (.int .i64 ho) ∧ W.cell? ⟨w.heap.size, 44, none⟩ = some (.slice A L.length cap)) := Lib.hid (fun W h => by
    have B := Blk.box (h.at 0 rfl)
    exact ⟨B.cell 31, B.cell 32, B.cell 33, B.cell 34, B.cell 35, B.cell 36, B.cell 37, B.cell 38, B.cell 39, B.cell 40, B.cell 41, B.cell 42, B.cell 43, B.cell 44⟩)
  have I0 := mst_in (Blk.box (H0.out.at 0 rfl))
  have k0 := I0.kind
  have R0 := Lib.hid I0.base
  clear I0
  have HB : Hid (∀ W, Calls Tryd.prog 60 #[.agg b.vals.toArray] W fun e w' => e = .returned (.bool true) ∧ Below W.heap.size W w') := Lib.hid (fun W => by
    have := bpRight_any b W
    rw [hq1] at this
    exact this)
  clear hq1
  simp only [hk] at k0
  clear hk
  have HN : Hid (∀ W, Calls Tryd.prog 61 #[.string ⟨nm.toArray⟩, .string ⟨#[0]⟩] W fun e w' => e = .returned (.bool false) ∧ w' = W) := Lib.hid (fun W => by
    have := Tryd.strings_HasSuffix ⟨nm.toArray⟩ ⟨#[0]⟩ W (by show nm.toArray.size ≤ _; rw [List.size_toArray]; omega)
    rw [show Lib.hasSuffix nm [0] = endsNought nm from suffix_nought nm, hq2] at this
    exact this)
  have ed : ((dg.length : Int) == 16) = true := by simp [hd]
  have HR : Hid (∀ W, Calls Tryd.prog 62 #[.agg #[.int .i64 ap, .int .i64 ae, .int .u8 a0.toNat, .int .u8 a1.toNat, .int .u8 a2.toNat, .int .u8 a3.toNat, .int .u8 a4.toNat, .int .u8 a5.toNat]] W fun e w' => e = .returned (.bool true) ∧ Below W.heap.size W w') := Lib.hid (fun W => by
    have := prioRight_any ⟨ap, ae, ⟨a0, a1, a2, a3, a4, a5⟩⟩ W
    rw [hq3] at this
    exact this)
  clear hq3
  go_enter Tryd.func21, Tryd.ntmps21
  go_upto_region 1 with (fail)
  generalize World.alloc _ _ = w0 at *
  go_step
  dsimp only [List.append]
  go_wp2_with (first
    | (with_reducible refine wpList_load_rngG (ty := 44) b.vals (by with_unfolding_all rfl) (by with_unfolding_all rfl) R0.out Tryd.underlying44 (by with_unfolding_all rfl) (by with_unfolding_all exact info44) ?_)
    | ((with_reducible refine (HB.out _).mono ?_)
       rintro e w1 ⟨rfl, hb1⟩
       have H1 := Lib.hid (H0.out.ext hb1)
       obtain ⟨k31, k32, k33, k34, k35, k36, k37, k38, k39, k40, k41, k42, k43, k44⟩ := HC.out _ H1.out
       clear hb1 k0)
    | ((with_reducible refine (HN.out _).mono ?_)
       rintro e w2 ⟨rfl, rfl⟩
       skip)
    | ((with_reducible refine (HR.out _).mono ?_)
       rintro e w3 ⟨rfl, hb3⟩
       have H3 := Lib.hid (H1.out.ext hb3)
       obtain ⟨k31, k32, k33, k34, k35, k36, k37, k38, k39, k40, k41, k42, k43, k44⟩ := HC.out _ H3.out
       clear hb3))
  go_ret
  exact ⟨rfl, H3.out.below⟩
set_option maxRecDepth 100000 in
set_option maxHeartbeats 4000000 in
theorem mr_13 (b : Bp) (nm : List UInt8) (rv : Int) (dg : List UInt8) (co : Int) (br : Br) (ho : Int) (L : List Ins) (A : Option Addr) (cap : Nat) (w : World) (hk : b.kind = 3) (hq1 : b.okB = true) (n32 : nm.length ≤ 32) (hq2 : endsNought nm = false) (rr0 : 0 ≤ rv) (rr1 : rv ≤ 65535) (hd : dg.length = 16) (cc0 : 0 ≤ co) (cc1 : co < 4294967296) (hq3 : br.okB = true) (hh0 : 0 ≤ ho) (hh1 : ho ≤ 255) (i64 : L.length ≤ 64) (hr : SlRow w w.heap.size 19 A (L.map Ins.vals)) :
    Calls Tryd.prog 21 #[.agg (Mst.vals ⟨b, nm, rv, dg, co, br, ho, L⟩ (.slice A L.length cap)).toArray] w fun e w' => e = .returned (.bool (!(L.any fun x => !x.okB))) ∧ Below w.heap.size w w' := by
  have hf1 : ∀ (args : Array Value) (W : World), (callFunc 64 args).run Tryd.prog W = .ok (.enter 64 args) W := fun args W => by kernel_rfl
  have HA : Hid (∀ W, Below w.heap.size w W → Calls Tryd.prog 63 #[.slice A L.length cap, .func (.func 64) #[] #[]] W fun e w' => e = .returned (.bool (L.any fun x => !x.okB)) ∧ Below W.heap.size W w') := Lib.hid (fun W hW =>
    anyf_ins (fun x => !x.okB) L A cap _ W _ rfl (by omega) ((hr.below hW (Nat.le_refl _)).more hW.size) (fun q _ X _ => instNot_any q X) hf1)
  clear hr hf1
  generalize (L.any fun x => !x.okB) = q4 at *
  obtain ⟨ap, ae, ⟨a0, a1, a2, a3, a4, a5⟩⟩ := br
  have H0 := Lib.hid ((St.init w).alloc (Mst.vals ⟨b, nm, rv, dg, co, ⟨ap, ae, ⟨a0, a1, a2, a3, a4, a5⟩⟩, ho, L⟩ (.slice A L.length cap)) 47)
  have HC : Hid (∀ W, St w.heap.size w W [bk w.heap.size 47 (Mst.vals ⟨b, nm, rv, dg, co, ⟨ap, ae, ⟨a0, a1, a2, a3, a4, a5⟩⟩, ho, L⟩ (.slice A L.length cap))] → W.cell? ⟨w.heap.size, 31, none⟩ = some (.string ⟨nm.toArray⟩) ∧ W.cell? ⟨w.heap.size, 32, none⟩ = some (.int .i64 rv) ∧ W.cell? ⟨w.heap.size, 33, none⟩ = some (.string ⟨dg.toArray⟩) ∧ W.cell? ⟨w.heap.size, 34, none⟩ = some (.int .i64 co) ∧ W.cell? ⟨w.heap.size, 35, none⟩ = some (.int .i64 ap) ∧ W.cell? ⟨w.heap.size, 36, none⟩ = some (.int .i64 ae) ∧ W.cell? ⟨w.heap.size, 37, none⟩ = some (.int .u8 a0.toNat) ∧ W.cell? ⟨w.heap.size, 38, none⟩ = some (.int .u8 a1.toNat) ∧ W.cell? ⟨w.heap.size, 39, none⟩ = some (.int .u8 a2.toNat) ∧ W.cell? ⟨w.heap.size, 40, none⟩ = some (.int .u8 a3.toNat) ∧ W.cell? ⟨w.heap.size, 41, none⟩ = some (.int .u8 a4.toNat) ∧ W.cell? ⟨w.heap.size, 42, none⟩ = some (.int .u8 a5.toNat) ∧ W.cell? ⟨w.heap.size, 43, none⟩ = some (.int .i64 ho) ∧ W.cell? ⟨w.heap.size, 44, none⟩ = some (.slice A L.length cap)) := Lib.hid (fun W h => by
    have B := Blk.box (h.at 0 rfl)
    exact ⟨B.cell 31, B.cell 32, B.cell 33, B.cell 34, B.cell 35, B.cell 36, B.cell 37, B.cell 38, B.cell 39, B.cell 40, B.cell 41, B.cell 42, B.cell 43, B.cell 44⟩)
  have I0 := mst_in (Blk.box (H0.out.at 0 rfl))
  have k0 := I0.kind
  have R0 := Lib.hid I0.base
  clear I0
  have HB : Hid (∀ W, Calls Tryd.prog 60 #[.agg b.vals.toArray] W fun e w' => e = .returned (.bool true) ∧ Below W.heap.size W w') := Lib.hid (fun W => by
    have := bpRight_any b W
    rw [hq1] at this
    exact this)
  clear hq1
  simp only [hk] at k0
  clear hk
  have HN : Hid (∀ W, Calls Tryd.prog 61 #[.string ⟨nm.toArray⟩, .string ⟨#[0]⟩] W fun e w' => e = .returned (.bool false) ∧ w' = W) := Lib.hid (fun W => by
    have := Tryd.strings_HasSuffix ⟨nm.toArray⟩ ⟨#[0]⟩ W (by show nm.toArray.size ≤ _; rw [List.size_toArray]; omega)
    rw [show Lib.hasSuffix nm [0] = endsNought nm from suffix_nought nm, hq2] at this
    exact this)
  have ed : ((dg.length : Int) == 16) = true := by simp [hd]
  have HR : Hid (∀ W, Calls Tryd.prog 62 #[.agg #[.int .i64 ap, .int .i64 ae, .int .u8 a0.toNat, .int .u8 a1.toNat, .int .u8 a2.toNat, .int .u8 a3.toNat, .int .u8 a4.toNat, .int .u8 a5.toNat]] W fun e w' => e = .returned (.bool true) ∧ Below W.heap.size W w') := Lib.hid (fun W => by
    have := prioRight_any ⟨ap, ae, ⟨a0, a1, a2, a3, a4, a5⟩⟩ W
    rw [hq3] at this
    exact this)
  clear hq3
  go_enter Tryd.func21, Tryd.ntmps21
  go_upto_region 1 with (fail)
  generalize World.alloc _ _ = w0 at *
  go_step
  dsimp only [List.append]
  go_wp2_with (first
    | (with_reducible refine wpList_load_rngG (ty := 44) b.vals (by with_unfolding_all rfl) (by with_unfolding_all rfl) R0.out Tryd.underlying44 (by with_unfolding_all rfl) (by with_unfolding_all exact info44) ?_)
    | ((with_reducible refine (HB.out _).mono ?_)
       rintro e w1 ⟨rfl, hb1⟩
       have H1 := Lib.hid (H0.out.ext hb1)
       obtain ⟨k31, k32, k33, k34, k35, k36, k37, k38, k39, k40, k41, k42, k43, k44⟩ := HC.out _ H1.out
       clear hb1 k0)
    | ((with_reducible refine (HN.out _).mono ?_)
       rintro e w2 ⟨rfl, rfl⟩
       skip)
    | ((with_reducible refine (HR.out _).mono ?_)
       rintro e w3 ⟨rfl, hb3⟩
       have H3 := Lib.hid (H1.out.ext hb3)
       obtain ⟨k31, k32, k33, k34, k35, k36, k37, k38, k39, k40, k41, k42, k43, k44⟩ := HC.out _ H3.out
       clear hb3)
    | ((with_reducible refine (HA.out _ H3.out.below).mono ?_)
       rintro e w4 ⟨rfl, hb4⟩
       have H4 := Lib.hid (H3.out.ext hb4)
       clear hb4))
  go_ret
  exact ⟨rfl, H4.out.below⟩
theorem mstRight_any (m : Mst) (A : Option Addr) (cap : Nat) (w : World) (hr : SlRow w w.heap.size 19 A (m.insts.map Ins.vals)) :
    Calls Tryd.prog 21 #[.agg (m.vals (.slice A m.insts.length cap)).toArray] w fun e w' => e = .returned (.bool m.okB) ∧ Below w.heap.size w w' := by
  obtain ⟨b, nm, rv, dg, co, br, ho, L⟩ := m
  have hok : Mst.okB ⟨b, nm, rv, dg, co, br, ho, L⟩ = (decide (b.kind = 3) && (b.okB && (decide (nm.length ≤ 32) && (!endsNought nm && (decide (0 ≤ rv) && decide (rv ≤ 65535) && (decide (dg.length = 16) && (decide (0 ≤ co) && decide (co < 4294967296) && (br.okB && (decide (0 ≤ ho) && decide (ho ≤ 255) && (decide (L.length ≤ 64) && !(L.any fun x => !x.okB))))))))))) := by
    rw [← all_ins]; rfl
  rw [hok]
  clear hok
  by_cases hk : b.kind = 3
  rotate_left
  · refine (mr_0 b nm rv dg co br ho L A cap w  hk).mono ?_
    rintro e w' ⟨rfl, hb⟩
    exact ⟨by simp [*], hb⟩
  cases hq1 : b.okB
  · refine (mr_1 b nm rv dg co br ho L A cap w hk hq1).mono ?_
    rintro e w' ⟨rfl, hb⟩
    exact ⟨by simp [*], hb⟩
  by_cases n32 : nm.length ≤ 32
  rotate_left
  · refine (mr_2 b nm rv dg co br ho L A cap w hk hq1 n32).mono ?_
    rintro e w' ⟨rfl, hb⟩
    exact ⟨by simp [*], hb⟩
  cases hq2 : endsNought nm
  rotate_left
  · refine (mr_3 b nm rv dg co br ho L A cap w hk hq1 n32 hq2).mono ?_
    rintro e w' ⟨rfl, hb⟩
    exact ⟨by simp [*], hb⟩
  by_cases rr0 : 0 ≤ rv
  rotate_left
  · refine (mr_4 b nm rv dg co br ho L A cap w hk hq1 n32 hq2 rr0).mono ?_
    rintro e w' ⟨rfl, hb⟩
    exact ⟨by simp [*], hb⟩
  by_cases rr1 : rv ≤ 65535
  rotate_left
  · refine (mr_5 b nm rv dg co br ho L A cap w hk hq1 n32 hq2 rr0 rr1).mono ?_
    rintro e w' ⟨rfl, hb⟩
    exact ⟨by simp [*], hb⟩
  by_cases hd : dg.length = 16
  rotate_left
  · refine (mr_6 b nm rv dg co br ho L A cap w hk hq1 n32 hq2 rr0 rr1 hd).mono ?_
    rintro e w' ⟨rfl, hb⟩
    exact ⟨by simp [*], hb⟩
  by_cases cc0 : 0 ≤ co
  rotate_left
  · refine (mr_7 b nm rv dg co br ho L A cap w hk hq1 n32 hq2 rr0 rr1 hd cc0).mono ?_
    rintro e w' ⟨rfl, hb⟩
    exact ⟨by simp [*], hb⟩
  by_cases cc1 : co < 4294967296
  rotate_left
  · refine (mr_8 b nm rv dg co br ho L A cap w hk hq1 n32 hq2 rr0 rr1 hd cc0 cc1).mono ?_
    rintro e w' ⟨rfl, hb⟩
    exact ⟨by simp [*], hb⟩
  cases hq3 : br.okB
  · refine (mr_9 b nm rv dg co br ho L A cap w hk hq1 n32 hq2 rr0 rr1 hd cc0 cc1 hq3).mono ?_
    rintro e w' ⟨rfl, hb⟩
    exact ⟨by simp [*], hb⟩
  by_cases hh0 : 0 ≤ ho
  rotate_left
  · refine (mr_10 b nm rv dg co br ho L A cap w hk hq1 n32 hq2 rr0 rr1 hd cc0 cc1 hq3 hh0).mono ?_
    rintro e w' ⟨rfl, hb⟩
    exact ⟨by simp [*], hb⟩
  by_cases hh1 : ho ≤ 255
  rotate_left
  · refine (mr_11 b nm rv dg co br ho L A cap w hk hq1 n32 hq2 rr0 rr1 hd cc0 cc1 hq3 hh0 hh1).mono ?_
    rintro e w' ⟨rfl, hb⟩
    exact ⟨by simp [*], hb⟩
  by_cases i64 : L.length ≤ 64
  rotate_left
  · refine (mr_12 b nm rv dg co br ho L A cap w hk hq1 n32 hq2 rr0 rr1 hd cc0 cc1 hq3 hh0 hh1 i64).mono ?_
    rintro e w' ⟨rfl, hb⟩
    exact ⟨by simp [*], hb⟩
  refine (mr_13 b nm rv dg co br ho L A cap w hk hq1 n32 hq2 rr0 rr1 hd cc0 cc1 hq3 hh0 hh1 i64 hr).mono ?_
  rintro e w' ⟨rfl, hb⟩
  exact ⟨by simp [*], hb⟩
end Go.Proofs.YteibhcocldihbaaDoor
namespace Go.Proofs.YteibhcocldihbaaDoor
open Go.RowKit
theorem exec_addS {P : Program} {a : Act} {d : Option Tmp} {t t2 : TypeId} {x y : Operand} {t' : TypeId} {pos : String} {after : Array Edge} {gd : Option (Nat × Bool)} {w : World} (s r : List UInt8) (hx : a.eval x = .string ⟨s.toArray⟩) (hy : a.eval y = .string ⟨r.toArray⟩) (h : s.length + r.length ≤ 9223372036854775807) :
    (execOp a.eval ⟨d, .binOp .add t x y t2, t', pos, after, gd⟩).run P w = .ok (.value (.string ⟨(s ++ r).toArray⟩)) w := by
  have h1 : ∀ w : World, (Op.stringOp .add ⟨s.toArray⟩ ⟨r.toArray⟩).run P w = .ok (.string ⟨(s ++ r).toArray⟩) w := fun w => by
    rw [run_string_add_sum (P := P) (w := w) ⟨s.toArray⟩ ⟨r.toArray⟩ h, ba_append]
  unfold execOp
  simp only [hx, hy, eqGuard, binOp, Sem.run_bind, Sem.run_pure, Result.andThen_ok, h1, ite_self]
end Go.Proofs.YteibhcocldihbaaDoor
namespace Go.Proofs.YteibhcocldihbaaDoor
open Go.RowKit
theorem rep_nought (k : Nat) : Lib.repeatL (⟨#[0]⟩ : ByteArray).data.toList k = List.replicate k (0 : UInt8) := by
  induction k with
  | zero => rfl
  | succ k ih => rw [List.replicate_succ, ← ih]; rfl
theorem repeat_any (k : Nat) (hk : k ≤ 2000) (w : World) : Calls Tryd.prog 44 #[.string ⟨#[0]⟩, .int .i64 (k : Int)] w fun e w' => e = .returned (.string ⟨(List.replicate k (0 : UInt8)).toArray⟩) ∧ Below w.heap.size w w' := by
  have h := Tryd.strings_Repeat ⟨#[0]⟩ k w (by omega) (by show 1 * k ≤ _; omega)
  rw [rep_nought] at h
  exact h
theorem must_int {x : Int} {n : Nat} (h0 : 0 ≤ x) (h1 : 1 ≤ n) (h7 : n ≤ 7) (hx : x.toNat < 256 ^ n) : Hid (∀ W, Calls Tryd.prog 43 #[.int .i64 x, .int .i64 (n : Int)] W fun e w' => e = .returned (.string ⟨(beBytes x.toNat n).toArray⟩) ∧ Below W.heap.size W w') := Lib.hid (fun W => by
  have := must_ok x.toNat n h1 h7 hx W
  rwa [Int.toNat_of_nonneg h0] at this)
theorem mstWrite_no (m : Mst) (A : Option Addr) (cap : Nat) (w : World) (hr : SlRow w w.heap.size 19 A (m.insts.map Ins.vals)) (hb : m.okB = false) :
    Calls Tryd.prog 20 #[.agg (m.vals (.slice A m.insts.length cap)).toArray] w fun e w' => e = .returned (.tuple #[.string ⟨#[]⟩, .iface 32 (.int .i64 1)]) ∧ Below w.heap.size w w' := by
  have HK := Lib.hid hb
  clear hb
  have HB := Lib.hid (Box.new w (m.vals (.slice A m.insts.length cap)) 47)
  have hb0 : Below w.heap.size w (w.alloc (.cells (m.vals (.slice A m.insts.length cap)).toArray 47)) := (Below.refl _ _).alloc (Nat.le_refl _) _
  have HR := Lib.hid (mstRight_any m A cap (w.alloc (.cells (m.vals (.slice A m.insts.length cap)).toArray 47)) ((hr.below hb0 (Nat.le_refl _)).more hb0.size))
  go_enter Tryd.func20, Tryd.ntmps20
  go_upto_region 1 with (fail)
  generalize World.alloc _ _ = W0 at *
  go_wp2_with (first
    | (with_reducible refine wpList_load_rng (ty := 47) (m.vals (.slice A m.insts.length cap)) (by with_unfolding_all rfl) HB.out.range Tryd.underlying47 (by with_unfolding_all rfl) (by with_unfolding_all exact info47) ?_)
    | ((with_reducible refine HR.out.mono ?_)
       rintro e w1 ⟨rfl, hb1⟩
       rw [HK.out]))
  go_ret2
  exact ⟨rfl, hb0.trans (hb1.mono hb0.size)⟩
@[reducible] def zIns : List Value := [.bool false, .bool false, .int .i64 0, .bool false, .bool false, .bool false, .bool false, .int .i64 0, .int .i64 0, .int .u8 0, .int .u8 0, .int .u8 0, .int .u8 0, .int .u8 0, .int .u8 0, .int .i64 0, .int .i64 0, .int .i64 0, .int .i64 0]
structure InsIn (w : World) (g : Nat) (x : Ins) : Prop where
  fl : w.rangeAt g 0 x.fl.vals
  root : w.rangeAt g 7 x.root.vals
  cost : w.cell? ⟨g, 15, none⟩ = some (.int .i64 x.cost)
  bridge : w.cell? ⟨g, 16, none⟩ = some (.int .i64 x.bridge)
  port : w.cell? ⟨g, 17, none⟩ = some (.int .i64 x.port)
  hops : w.cell? ⟨g, 18, none⟩ = some (.int .i64 x.hops)
theorem ins_in {w : World} {g : Nat} {x : Ins} (h : Box w g x.vals) : InsIn w g x := by
  have h0 := h.range
  have h1 : w.rangeAt g 7 (x.root.vals ++ [.int .i64 x.cost, .int .i64 x.bridge, .int .i64 x.port, .int .i64 x.hops]) := by
    have := rng_right (a := x.fl.vals) h0
    exact this
  exact ⟨rng_left h0, rng_left h1, h.cell 15, h.cell 16, h.cell 17, h.cell 18⟩
theorem insBytes_take {L : List Ins} {k : Nat} (h : k < L.length) : insBytes (L.take (k + 1)) = insBytes (L.take k) ++ (L[k]).bytes := by
  rw [List.take_succ_eq_append_getElem h]
  unfold insBytes
  rw [List.flatMap_append, List.flatMap_cons, List.flatMap_nil, List.append_nil]
theorem insBytes_take_len (L : List Ins) (k : Nat) (h : k ≤ L.length) : (insBytes (L.take k)).length = 16 * k := by
  rw [insBytes_len, List.length_take]; omega
set_option maxRecDepth 100000 in
set_option maxHeartbeats 20000000 in
theorem mstWrite_ok (m : Mst) (A : Option Addr) (cap : Nat) (w : World) (hr : SlRow w w.heap.size 19 A (m.insts.map Ins.vals)) (hb : m.okB = true) :
    Calls Tryd.prog 20 #[.agg (m.vals (.slice A m.insts.length cap)).toArray] w fun e w' => e = .returned (.tuple #[.string ⟨m.bytes.toArray⟩, .nilIface]) ∧ Below w.heap.size w w' := by
  have hk := Mst.ok_iff.1 hb
  have hR := fun W (h : Below w.heap.size w W) => mstRight_any m A cap W ((hr.below h (Nat.le_refl _)).more h.size)
  rw [hb] at hR
  have HR := Lib.hid hR
  have Hr := Lib.hid hr
  have hbase := hk.base
  unfold Bp.okB at hbase
  rw [if_neg (by rw [hk.kind]; decide), if_neg (by rw [hk.kind]; decide), if_pos hk.kind] at hbase
  simp only [Bool.and_eq_true] at hbase
  have MB := Lib.hid (fun W => bodyF_ok m.base (Bp.rest_iff.1 hbase.2) hbase.1 W)
  have PB := Lib.hid (fun W => pack_ok m.bridge hk.br W)
  have ML : Hid (∀ W, Calls Tryd.prog 43 #[.int .i64 ((64 + 16 * m.insts.length : Nat) : Int), .int .i64 2] W fun e w' => e = .returned (.string ⟨(beBytes (64 + 16 * m.insts.length) 2).toArray⟩) ∧ Below W.heap.size W w') := Lib.hid (fun W => must_ok _ 2 (by decide) (by decide) (by have := hk.il; omega) W)
  have MR := Lib.hid (fun W => repeat_any (32 - m.name.length) (by omega) W)
  have MV := must_int (n := 2) hk.r0 (by decide) (by decide) (by have := hk.r1; have := hk.r0; omega)
  have MC := must_int (n := 4) hk.c0 (by decide) (by decide) (by have := hk.c1; have := hk.c0; omega)
  have MH := must_int (n := 1) hk.h0 (by decide) (by decide) (by have := hk.h1; have := hk.h0; omega)
  have Hok := Lib.hid hk.ok
  have nl := hk.nl
  have dg := hk.dg
  have il := hk.il
  have HBY : Hid (m.bytes = headMst ++ (m.base.body ++ ([0] ++ (beBytes (64 + 16 * m.insts.length) 2 ++ ([0] ++ ((m.name ++ List.replicate (32 - m.name.length) 0) ++ (beBytes m.rev.toNat 2 ++ (m.digest ++ (beBytes m.cost.toNat 4 ++ (m.bridge.bytes ++ (beBytes m.hops.toNat 1 ++ insBytes m.insts))))))))))) := Lib.hid rfl
  clear hb hR hr hbase hk
  generalize m.bytes = BY at *
  obtain ⟨b, nm, rv, dgt, co, br, ho, L⟩ := m
  simp only [] at *
  have l1 : b.body.length = 31 := Bp.body_len b
  have l2 : (beBytes (64 + 16 * L.length) 2).length = 2 := beBytes_len _ _
  have l3 : (beBytes rv.toNat 2).length = 2 := beBytes_len _ _
  have l4 : (beBytes co.toNat 4).length = 4 := beBytes_len _ _
  have l5 : br.bytes.length = 8 := Br.bytes_len _
  have l6 : (beBytes ho.toNat 1).length = 1 := beBytes_len _ _
  have l7 : nm.length + (List.replicate (32 - nm.length) (0 : UInt8)).length = 32 := by rw [List.length_replicate]; omega
  have h32 : IntKind.i64.wrap ((32 : Int) - (nm.length : Int)) = ((32 - nm.length : Nat) : Int) := by rw [IntKind.wrap_i64]; omega
  have h16 : IntKind.i64.wrap ((16 : Int) * (L.length : Int)) = 16 * (L.length : Int) := by rw [IntKind.wrap_i64]; omega
  have h64 : IntKind.i64.wrap ((64 : Int) + 16 * (L.length : Int)) = ((64 + 16 * L.length : Nat) : Int) := by rw [IntKind.wrap_i64]; omega
  generalize beBytes (64 + 16 * L.length) 2 = B2 at *
  generalize (64 + 16 * L.length : Nat) = q64 at *
  generalize beBytes rv.toNat 2 = B3 at *
  generalize beBytes co.toNat 4 = B4 at *
  generalize br.bytes = B5 at *
  generalize beBytes ho.toNat 1 = B6 at *
  generalize List.replicate (32 - nm.length) (0 : UInt8) = B7 at *
  generalize (32 - nm.length : Nat) = q32 at *
  generalize b.body = B1 at *
  obtain ⟨n, hlen⟩ : ∃ n, L.length = n := ⟨_, rfl⟩
  have Hlen := Lib.hid hlen
  have HR : Hid (∀ W, Below w.heap.size w W → Calls Tryd.prog 21 #[.agg (Mst.vals ⟨b, nm, rv, dgt, co, br, ho, L⟩ (.slice A n cap)).toArray] W fun e w' => e = .returned (.bool true) ∧ Below W.heap.size W w') := Lib.hid (fun W h => by rw [← hlen]; exact HR.out W h)
  rw [hlen] at il h16 h64 ⊢
  clear hlen
  have H0 := Lib.hid ((St.init w).alloc (Mst.vals ⟨b, nm, rv, dgt, co, br, ho, L⟩ (.slice A n cap)) 47)
  go_enter Tryd.func20, Tryd.ntmps20
  go_upto_region 1 with (fail)
  generalize World.alloc _ _ = w1 at *
  have R1 := Lib.hid (Blk.box (H0.out.at 0 rfl)).range
  go_upto_region 3 with (first
    | (with_reducible refine wpList_load_rng (ty := 47) (Mst.vals ⟨b, nm, rv, dgt, co, br, ho, L⟩ (.slice A n cap)) (by with_unfolding_all rfl) R1.out Tryd.underlying47 (by with_unfolding_all rfl) (by with_unfolding_all exact info47) ?_)
    | ((with_reducible refine (HR.out _ H0.out.below).mono ?_)
       rintro e w2 ⟨rfl, hb2⟩
       have H2 := Lib.hid (H0.out.ext hb2)
       clear hb2))
  have R2 := Lib.hid (mst_in (Blk.box (H2.out.at 0 rfl))).bridge
  go_upto_region 4 with (first
    | (with_reducible refine wpList_load_rng (ty := 40) br.vals (by with_unfolding_all rfl) R2.out Tryd.underlying40 (by with_unfolding_all rfl) (by with_unfolding_all exact info40) ?_)
    | ((with_reducible refine (PB.out _).mono ?_)
       rintro e w3 ⟨rfl, hb3⟩
       have H3 := Lib.hid (H2.out.ext hb3)
       clear hb3))
  have H4 := Lib.hid H3.out.sb_new
  go_upto_region 5 with (fail)
  clear H3 H2 H0 R1 R2
  generalize World.alloc _ _ = w4 at *
  generalize w3.heap.size = bb at *
  generalize hb0 : w.heap.size = P at *
  have hS4 : w4.rangeAt P 0 b.vals ∧ w4.cell? ⟨P, 44, none⟩ = some (.slice A n cap) := (let I := mst_in (m := ⟨b, nm, rv, dgt, co, br, ho, L⟩) (Blk.box (H4.out.at 1 rfl)); ⟨I.base, I.insts⟩)
  refine wp_region_last (fun X => X.rangeAt P 0 b.vals ∧ X.cell? ⟨P, 44, none⟩ = some (.slice A n cap)) 12 (by kernel_rfl) hS4 (fun hHeld => ?_)
  refine wpAnyG_takeG 0 (oi := ?o32) ?v32 ?hi32 (by kernel_rfl) (by kernel_rfl) (by decide) (by kernel_rfl) (by kernel_rfl) ?hq32 ?hg32 ?hy32 (by assumption) ?hk32
  case hi32 => (simp only [List.getElem?_toArray, List.getElem?_cons_succ, List.getElem?_cons_zero]; rfl)
  case hq32 => exact fun _ _ _ h => h
  case hg32 => (first | with_unfolding_all rfl | (go_simp; with_unfolding_all rfl))
  case hy32 => (intro X hX; (first | obtain ⟨hXa, hXb, hXc, hXd, hXe⟩ := hX | obtain ⟨hXa, hXb, hXc, hXd⟩ := hX | obtain ⟨hXa, hXb, hXc⟩ := hX | obtain ⟨hXa, hXb⟩ := hX | skip); go_simp; try with_reducible rfl)
  try simp only [Act.put, List.setIfInBounds_toArray, List.set_cons_zero, List.set_cons_succ]
  refine wpAnyG_takeG 5 (oi := ?o33) ?v33 ?hi33 (by kernel_rfl) (by kernel_rfl) (by decide) (by kernel_rfl) (by kernel_rfl) ?hq33 ?hg33 ?hy33 (by assumption) ?hk33
  case hi33 => (simp only [List.getElem?_toArray, List.getElem?_cons_succ, List.getElem?_cons_zero]; rfl)
  case hq33 => exact fun _ _ _ h => h
  case hg33 => (first | with_unfolding_all rfl | (go_simp; with_unfolding_all rfl))
  case hy33 => (intro X hX; (first | obtain ⟨hXa, hXb, hXc, hXd, hXe⟩ := hX | obtain ⟨hXa, hXb, hXc, hXd⟩ := hX | obtain ⟨hXa, hXb, hXc⟩ := hX | obtain ⟨hXa, hXb⟩ := hX | skip); go_simp; try with_reducible rfl)
  try simp only [Act.put, List.setIfInBounds_toArray, List.set_cons_zero, List.set_cons_succ]
  refine wpAnyG_take 1 (oi := ?o34) (.agg (b.vals).toArray) ?hi34 (by kernel_rfl) (by kernel_rfl) (by decide) (by kernel_rfl) (by kernel_rfl) ?hq34 ?hg34 ?hy34 (by assumption) ?hk34
  case hi34 => (simp only [List.getElem?_toArray, List.getElem?_cons_succ, List.getElem?_cons_zero]; rfl)
  case hq34 => exact fun _ _ _ h => h
  case hg34 => rfl
  case hy34 => exact fun X hX => exec_load_rng (ty := 44) (b.vals) rfl (hX.1) Tryd.underlying44 rfl info44
  try simp only [Act.put, List.setIfInBounds_toArray, List.set_cons_zero, List.set_cons_succ]
  refine wpAnyG_takeG 6 (oi := ?o36) ?v36 ?hi36 (by kernel_rfl) (by kernel_rfl) (by decide) (by kernel_rfl) (by kernel_rfl) ?hq36 ?hg36 ?hy36 (by assumption) ?hk36
  case hi36 => (simp only [List.getElem?_toArray, List.getElem?_cons_succ, List.getElem?_cons_zero]; rfl)
  case hq36 => exact fun _ _ _ h => h
  case hg36 => (first | with_unfolding_all rfl | (go_simp; with_unfolding_all rfl))
  case hy36 => (intro X hX; (first | obtain ⟨hXa, hXb, hXc, hXd, hXe⟩ := hX | obtain ⟨hXa, hXb, hXc, hXd⟩ := hX | obtain ⟨hXa, hXb, hXc⟩ := hX | obtain ⟨hXa, hXb⟩ := hX | skip); go_simp; try with_reducible rfl)
  try simp only [Act.put, List.setIfInBounds_toArray, List.set_cons_zero, List.set_cons_succ]
  refine wpAnyG_takeG 7 (oi := ?o37) ?v37 ?hi37 (by kernel_rfl) (by kernel_rfl) (by decide) (by kernel_rfl) (by kernel_rfl) ?hq37 ?hg37 ?hy37 (by assumption) ?hk37
  case hi37 => (simp only [List.getElem?_toArray, List.getElem?_cons_succ, List.getElem?_cons_zero]; rfl)
  case hq37 => exact fun _ _ _ h => h
  case hg37 => (first | with_unfolding_all rfl | (go_simp; with_unfolding_all rfl))
  case hy37 => (intro X hX; (first | obtain ⟨hXa, hXb, hXc, hXd, hXe⟩ := hX | obtain ⟨hXa, hXb, hXc, hXd⟩ := hX | obtain ⟨hXa, hXb, hXc⟩ := hX | obtain ⟨hXa, hXb⟩ := hX | skip); go_simp; try with_reducible rfl)
  try simp only [Act.put, List.setIfInBounds_toArray, List.set_cons_zero, List.set_cons_succ]
  refine wpAnyG_takeG 8 (oi := ?o38) ?v38 ?hi38 (by kernel_rfl) (by kernel_rfl) (by decide) (by kernel_rfl) (by kernel_rfl) ?hq38 ?hg38 ?hy38 (by assumption) ?hk38
  case hi38 => (simp only [List.getElem?_toArray, List.getElem?_cons_succ, List.getElem?_cons_zero]; rfl)
  case hq38 => exact fun _ _ _ h => h
  case hg38 => (first | with_unfolding_all rfl | (go_simp; with_unfolding_all rfl))
  case hy38 => (intro X hX; (first | obtain ⟨hXa, hXb, hXc, hXd, hXe⟩ := hX | obtain ⟨hXa, hXb, hXc, hXd⟩ := hX | obtain ⟨hXa, hXb, hXc⟩ := hX | obtain ⟨hXa, hXb⟩ := hX | skip); go_simp; try with_reducible rfl)
  try simp only [Act.put, List.setIfInBounds_toArray, List.set_cons_zero, List.set_cons_succ]
  refine wpAnyG_takeG 9 (oi := ?o39) ?v39 ?hi39 (by kernel_rfl) (by kernel_rfl) (by decide) (by kernel_rfl) (by kernel_rfl) ?hq39 ?hg39 ?hy39 (by assumption) ?hk39
  case hi39 => (simp only [List.getElem?_toArray, List.getElem?_cons_succ, List.getElem?_cons_zero]; rfl)
  case hq39 => exact fun _ _ _ h => h
  case hg39 => (first | with_unfolding_all rfl | (go_simp; with_unfolding_all rfl))
  case hy39 => (intro X hX; (first | obtain ⟨hXa, hXb, hXc, hXd, hXe⟩ := hX | obtain ⟨hXa, hXb, hXc, hXd⟩ := hX | obtain ⟨hXa, hXb, hXc⟩ := hX | obtain ⟨hXa, hXb⟩ := hX | skip); go_simp; try with_reducible rfl)
  try simp only [Act.put, List.setIfInBounds_toArray, List.set_cons_zero, List.set_cons_succ]
  refine wpAnyG_one 2 (o := ?o40) (by kernel_rfl) ?hi40 ?hg40 ?hk40
  case hi40 => (simp only [List.getElem?_toArray, List.getElem?_cons_succ, List.getElem?_cons_zero]; rfl)
  case hg40 => rfl
  intro K hK
  go_simp
  refine (MB.out _).mono ?_
  rintro e w5 ⟨rfl, hb5⟩
  have H5 := Lib.hid (H4.out.drew.ext hb5)
  have hS5 : w5.rangeAt P 0 b.vals ∧ w5.cell? ⟨P, 44, none⟩ = some (.slice A n cap) := (let I := mst_in (m := ⟨b, nm, rv, dgt, co, br, ho, L⟩) (Blk.box (H5.out.at 1 rfl)); ⟨I.base, I.insts⟩)
  refine hK.out _ _ (fun _ => hS5) (fun _ => ?_)
  clear hK K hHeld hb5 H4
  have hHeld := hS5
  try simp only [Act.put, List.setIfInBounds_toArray, List.set_cons_zero, List.set_cons_succ]
  refine wpAnyG_takeG 3 (oi := ?o41) (.string ⟨(([0, 0, 3, 2]) ++ (B1)).toArray⟩) ?hi41 (by kernel_rfl) (by kernel_rfl) (by decide) (by kernel_rfl) (by kernel_rfl) ?hq41 ?hg41 ?hy41 (by assumption) ?hk41
  case hi41 => (simp only [List.getElem?_toArray, List.getElem?_cons_succ, List.getElem?_cons_zero]; rfl)
  case hq41 => exact fun _ _ _ h => h
  case hg41 => (first | with_unfolding_all rfl | (go_simp; with_unfolding_all rfl))
  case hy41 => exact fun X hX => exec_addS ([0, 0, 3, 2]) (B1) (by with_unfolding_all rfl) (by with_unfolding_all rfl) (by simp only [List.length_append, List.length_cons, List.length_nil, l1] <;> omega)
  try simp only [Act.put, List.setIfInBounds_toArray, List.set_cons_zero, List.set_cons_succ]
  refine wpAnyG_takeG 4 (oi := ?o42) (.string ⟨(([0, 0, 3, 2] ++ B1) ++ ([0])).toArray⟩) ?hi42 (by kernel_rfl) (by kernel_rfl) (by decide) (by kernel_rfl) (by kernel_rfl) ?hq42 ?hg42 ?hy42 (by assumption) ?hk42
  case hi42 => (simp only [List.getElem?_toArray, List.getElem?_cons_succ, List.getElem?_cons_zero]; rfl)
  case hq42 => exact fun _ _ _ h => h
  case hg42 => (first | with_unfolding_all rfl | (go_simp; with_unfolding_all rfl))
  case hy42 => exact fun X hX => exec_addS ([0, 0, 3, 2] ++ B1) ([0]) (by with_unfolding_all rfl) (by with_unfolding_all rfl) (by simp only [List.length_append, List.length_cons, List.length_nil, l1] <;> omega)
  try simp only [Act.put, List.setIfInBounds_toArray, List.set_cons_zero, List.set_cons_succ]
  refine wpAnyG_one 10 (o := ?o43) (by kernel_rfl) ?hi43 ?hg43 ?hk43
  case hi43 => (simp only [List.getElem?_toArray, List.getElem?_cons_succ, List.getElem?_cons_zero]; rfl)
  case hg43 => rfl
  intro K hK
  go_simp
  refine (ML.out _).mono ?_
  rintro e w6 ⟨rfl, hb6⟩
  have H6 := Lib.hid (H5.out.ext hb6)
  have hS6 : w6.rangeAt P 0 b.vals ∧ w6.cell? ⟨P, 44, none⟩ = some (.slice A n cap) := (let I := mst_in (m := ⟨b, nm, rv, dgt, co, br, ho, L⟩) (Blk.box (H6.out.at 1 rfl)); ⟨I.base, I.insts⟩)
  refine hK.out _ _ (fun _ => hS6) (fun _ => ?_)
  clear hK K hHeld hb6 H5
  have hHeld := hS6
  try simp only [Act.put, List.setIfInBounds_toArray, List.set_cons_zero, List.set_cons_succ]
  refine wpAnyG_takeG 11 (oi := ?o44) (.string ⟨((([0, 0, 3, 2] ++ B1) ++ [0]) ++ (B2)).toArray⟩) ?hi44 (by kernel_rfl) (by kernel_rfl) (by decide) (by kernel_rfl) (by kernel_rfl) ?hq44 ?hg44 ?hy44 (by assumption) ?hk44
  case hi44 => (simp only [List.getElem?_toArray, List.getElem?_cons_succ, List.getElem?_cons_zero]; rfl)
  case hq44 => exact fun _ _ _ h => h
  case hg44 => (first | with_unfolding_all rfl | (go_simp; with_unfolding_all rfl))
  case hy44 => exact fun X hX => exec_addS (([0, 0, 3, 2] ++ B1) ++ [0]) (B2) (by with_unfolding_all rfl) (by with_unfolding_all rfl) (by simp only [List.length_append, List.length_cons, List.length_nil, l1, l2] <;> omega)
  try simp only [Act.put, List.setIfInBounds_toArray, List.set_cons_zero, List.set_cons_succ]
  refine wpAnyG_one 12 (o := ?o45) (by kernel_rfl) ?hi45 ?hg45 ?hk45
  case hi45 => (simp only [List.getElem?_toArray, List.getElem?_cons_succ, List.getElem?_cons_zero]; rfl)
  case hg45 => rfl
  intro K hK
  go_simp
  refine (bwrite_st H6.out (Others.cons (bk_other (by decide)) Others.nil) _ (by simp only [List.length_append, List.length_cons, List.length_nil, l1, l2] <;> omega)).mono ?_
  rintro e w7 ⟨he, v7, h7⟩
  obtain ⟨rv7, rfl⟩ : ∃ x, e = .returned x := ⟨_, he⟩
  clear he
  have H7 := Lib.hid h7
  refine hK.out _ _ (fun h => absurd rfl h) (fun _ => ?_)
  refine wpAnyG_done (by kernel_rfl) ?_ _
  clear hK K hHeld h7 H6
  clear hS4 hS5 hS6
  go_upto_region 6 with (fail)
  have hS7 : w7.cell? ⟨P, 31, none⟩ = some (.string ⟨nm.toArray⟩) ∧ w7.cell? ⟨P, 32, none⟩ = some (.int .i64 rv) ∧ w7.cell? ⟨P, 33, none⟩ = some (.string ⟨dgt.toArray⟩) := (let I := mst_in (m := ⟨b, nm, rv, dgt, co, br, ho, L⟩) (Blk.box (H7.out.at 1 rfl)); ⟨I.name, I.rev, I.digest⟩)
  refine wp_region_last (fun X => X.cell? ⟨P, 31, none⟩ = some (.string ⟨nm.toArray⟩) ∧ X.cell? ⟨P, 32, none⟩ = some (.int .i64 rv) ∧ X.cell? ⟨P, 33, none⟩ = some (.string ⟨dgt.toArray⟩)) 16 (by kernel_rfl) hS7 (fun hHeld => ?_)
  refine wpAnyG_takeG 0 (oi := ?o47) ?v47 ?hi47 (by kernel_rfl) (by kernel_rfl) (by decide) (by kernel_rfl) (by kernel_rfl) ?hq47 ?hg47 ?hy47 (by assumption) ?hk47
  case hi47 => (simp only [List.getElem?_toArray, List.getElem?_cons_succ, List.getElem?_cons_zero]; rfl)
  case hq47 => exact fun _ _ _ h => h
  case hg47 => (first | with_unfolding_all rfl | (go_simp; with_unfolding_all rfl))
  case hy47 => (intro X hX; (first | obtain ⟨hXa, hXb, hXc, hXd, hXe⟩ := hX | obtain ⟨hXa, hXb, hXc, hXd⟩ := hX | obtain ⟨hXa, hXb, hXc⟩ := hX | obtain ⟨hXa, hXb⟩ := hX | skip); go_simp; try with_reducible rfl)
  try simp only [Act.put, List.setIfInBounds_toArray, List.set_cons_zero, List.set_cons_succ]
  refine wpAnyG_takeG 3 (oi := ?o48) ?v48 ?hi48 (by kernel_rfl) (by kernel_rfl) (by decide) (by kernel_rfl) (by kernel_rfl) ?hq48 ?hg48 ?hy48 (by assumption) ?hk48
  case hi48 => (simp only [List.getElem?_toArray, List.getElem?_cons_succ, List.getElem?_cons_zero]; rfl)
  case hq48 => exact fun _ _ _ h => h
  case hg48 => (first | with_unfolding_all rfl | (go_simp; with_unfolding_all rfl))
  case hy48 => (intro X hX; (first | obtain ⟨hXa, hXb, hXc, hXd, hXe⟩ := hX | obtain ⟨hXa, hXb, hXc, hXd⟩ := hX | obtain ⟨hXa, hXb, hXc⟩ := hX | obtain ⟨hXa, hXb⟩ := hX | skip); go_simp; try with_reducible rfl)
  try simp only [Act.put, List.setIfInBounds_toArray, List.set_cons_zero, List.set_cons_succ]
  refine wpAnyG_takeG 9 (oi := ?o49) ?v49 ?hi49 (by kernel_rfl) (by kernel_rfl) (by decide) (by kernel_rfl) (by kernel_rfl) ?hq49 ?hg49 ?hy49 (by assumption) ?hk49
  case hi49 => (simp only [List.getElem?_toArray, List.getElem?_cons_succ, List.getElem?_cons_zero]; rfl)
  case hq49 => exact fun _ _ _ h => h
  case hg49 => (first | with_unfolding_all rfl | (go_simp; with_unfolding_all rfl))
  case hy49 => (intro X hX; (first | obtain ⟨hXa, hXb, hXc, hXd, hXe⟩ := hX | obtain ⟨hXa, hXb, hXc, hXd⟩ := hX | obtain ⟨hXa, hXb, hXc⟩ := hX | obtain ⟨hXa, hXb⟩ := hX | skip); go_simp; try with_reducible rfl)
  try simp only [Act.put, List.setIfInBounds_toArray, List.set_cons_zero, List.set_cons_succ]
  refine wpAnyG_takeG 13 (oi := ?o50) ?v50 ?hi50 (by kernel_rfl) (by kernel_rfl) (by decide) (by kernel_rfl) (by kernel_rfl) ?hq50 ?hg50 ?hy50 (by assumption) ?hk50
  case hi50 => (simp only [List.getElem?_toArray, List.getElem?_cons_succ, List.getElem?_cons_zero]; rfl)
  case hq50 => exact fun _ _ _ h => h
  case hg50 => (first | with_unfolding_all rfl | (go_simp; with_unfolding_all rfl))
  case hy50 => (intro X hX; (first | obtain ⟨hXa, hXb, hXc, hXd, hXe⟩ := hX | obtain ⟨hXa, hXb, hXc, hXd⟩ := hX | obtain ⟨hXa, hXb, hXc⟩ := hX | obtain ⟨hXa, hXb⟩ := hX | skip); go_simp; try with_reducible rfl)
  try simp only [Act.put, List.setIfInBounds_toArray, List.set_cons_zero, List.set_cons_succ]
  refine wpAnyG_takeG 1 (oi := ?o51) ?v51 ?hi51 (by kernel_rfl) (by kernel_rfl) (by decide) (by kernel_rfl) (by kernel_rfl) ?hq51 ?hg51 ?hy51 (by assumption) ?hk51
  case hi51 => (simp only [List.getElem?_toArray, List.getElem?_cons_succ, List.getElem?_cons_zero]; rfl)
  case hq51 => exact fun _ _ _ h => h
  case hg51 => (first | with_unfolding_all rfl | (go_simp; with_unfolding_all rfl))
  case hy51 => (intro X hX; (first | obtain ⟨hXa, hXb, hXc, hXd, hXe⟩ := hX | obtain ⟨hXa, hXb, hXc, hXd⟩ := hX | obtain ⟨hXa, hXb, hXc⟩ := hX | obtain ⟨hXa, hXb⟩ := hX | skip); go_simp; try with_reducible rfl)
  try simp only [Act.put, List.setIfInBounds_toArray, List.set_cons_zero, List.set_cons_succ]
  refine wpAnyG_takeG 4 (oi := ?o52) ?v52 ?hi52 (by kernel_rfl) (by kernel_rfl) (by decide) (by kernel_rfl) (by kernel_rfl) ?hq52 ?hg52 ?hy52 (by assumption) ?hk52
  case hi52 => (simp only [List.getElem?_toArray, List.getElem?_cons_succ, List.getElem?_cons_zero]; rfl)
  case hq52 => exact fun _ _ _ h => h
  case hg52 => (first | with_unfolding_all rfl | (go_simp; with_unfolding_all rfl))
  case hy52 => (intro X hX; (first | obtain ⟨hXa, hXb, hXc, hXd, hXe⟩ := hX | obtain ⟨hXa, hXb, hXc, hXd⟩ := hX | obtain ⟨hXa, hXb, hXc⟩ := hX | obtain ⟨hXa, hXb⟩ := hX | skip); go_simp; try with_reducible rfl)
  try simp only [Act.put, List.setIfInBounds_toArray, List.set_cons_zero, List.set_cons_succ]
  refine wpAnyG_takeG 10 (oi := ?o53) ?v53 ?hi53 (by kernel_rfl) (by kernel_rfl) (by decide) (by kernel_rfl) (by kernel_rfl) ?hq53 ?hg53 ?hy53 (by assumption) ?hk53
  case hi53 => (simp only [List.getElem?_toArray, List.getElem?_cons_succ, List.getElem?_cons_zero]; rfl)
  case hq53 => exact fun _ _ _ h => h
  case hg53 => (first | with_unfolding_all rfl | (go_simp; with_unfolding_all rfl))
  case hy53 => (intro X hX; (first | obtain ⟨hXa, hXb, hXc, hXd, hXe⟩ := hX | obtain ⟨hXa, hXb, hXc, hXd⟩ := hX | obtain ⟨hXa, hXb, hXc⟩ := hX | obtain ⟨hXa, hXb⟩ := hX | skip); go_simp; try with_reducible rfl)
  try simp only [Act.put, List.setIfInBounds_toArray, List.set_cons_zero, List.set_cons_succ]
  refine wpAnyG_takeG 14 (oi := ?o54) ?v54 ?hi54 (by kernel_rfl) (by kernel_rfl) (by decide) (by kernel_rfl) (by kernel_rfl) ?hq54 ?hg54 ?hy54 (by assumption) ?hk54
  case hi54 => (simp only [List.getElem?_toArray, List.getElem?_cons_succ, List.getElem?_cons_zero]; rfl)
  case hq54 => exact fun _ _ _ h => h
  case hg54 => (first | with_unfolding_all rfl | (go_simp; with_unfolding_all rfl))
  case hy54 => (intro X hX; (first | obtain ⟨hXa, hXb, hXc, hXd, hXe⟩ := hX | obtain ⟨hXa, hXb, hXc, hXd⟩ := hX | obtain ⟨hXa, hXb, hXc⟩ := hX | obtain ⟨hXa, hXb⟩ := hX | skip); go_simp; try with_reducible rfl)
  try simp only [Act.put, List.setIfInBounds_toArray, List.set_cons_zero, List.set_cons_succ]
  refine wpAnyG_takeG 2 (oi := ?o55) (.string ⟨(([0]) ++ (nm)).toArray⟩) ?hi55 (by kernel_rfl) (by kernel_rfl) (by decide) (by kernel_rfl) (by kernel_rfl) ?hq55 ?hg55 ?hy55 (by assumption) ?hk55
  case hi55 => (simp only [List.getElem?_toArray, List.getElem?_cons_succ, List.getElem?_cons_zero]; rfl)
  case hq55 => exact fun _ _ _ h => h
  case hg55 => (first | with_unfolding_all rfl | (go_simp; with_unfolding_all rfl))
  case hy55 => exact fun X hX => exec_addS ([0]) (nm) (by with_unfolding_all rfl) (by with_unfolding_all rfl) (by simp only [List.length_append, List.length_cons, List.length_nil] <;> omega)
  try simp only [Act.put, List.setIfInBounds_toArray, List.set_cons_zero, List.set_cons_succ]
  refine wpAnyG_takeG 5 (oi := ?o57) ?v57 ?hi57 (by kernel_rfl) (by kernel_rfl) (by decide) (by kernel_rfl) (by kernel_rfl) ?hq57 ?hg57 ?hy57 (by assumption) ?hk57
  case hi57 => (simp only [List.getElem?_toArray, List.getElem?_cons_succ, List.getElem?_cons_zero]; rfl)
  case hq57 => exact fun _ _ _ h => h
  case hg57 => (first | with_unfolding_all rfl | (go_simp; with_unfolding_all rfl))
  case hy57 => (intro X hX; (first | obtain ⟨hXa, hXb, hXc, hXd, hXe⟩ := hX | obtain ⟨hXa, hXb, hXc, hXd⟩ := hX | obtain ⟨hXa, hXb, hXc⟩ := hX | obtain ⟨hXa, hXb⟩ := hX | skip); go_simp; try with_reducible rfl)
  try simp only [Act.put, List.setIfInBounds_toArray, List.set_cons_zero, List.set_cons_succ]
  refine wpAnyG_takeG 6 (oi := ?o58) ?v58 ?hi58 (by kernel_rfl) (by kernel_rfl) (by decide) (by kernel_rfl) (by kernel_rfl) ?hq58 ?hg58 ?hy58 (by assumption) ?hk58
  case hi58 => (simp only [List.getElem?_toArray, List.getElem?_cons_succ, List.getElem?_cons_zero]; rfl)
  case hq58 => exact fun _ _ _ h => h
  case hg58 => (first | with_unfolding_all rfl | (go_simp; with_unfolding_all rfl))
  case hy58 => (intro X hX; (first | obtain ⟨hXa, hXb, hXc, hXd, hXe⟩ := hX | obtain ⟨hXa, hXb, hXc, hXd⟩ := hX | obtain ⟨hXa, hXb, hXc⟩ := hX | obtain ⟨hXa, hXb⟩ := hX | skip); go_simp; try with_reducible rfl)
  try simp only [Act.put, List.setIfInBounds_toArray, List.set_cons_zero, List.set_cons_succ]
  refine wpAnyG_one 7 (o := ?o59) (by kernel_rfl) ?hi59 ?hg59 ?hk59
  case hi59 => (simp only [List.getElem?_toArray, List.getElem?_cons_succ, List.getElem?_cons_zero]; rfl)
  case hg59 => rfl
  intro K hK
  go_simp
  refine (MR.out _).mono ?_
  rintro e w8 ⟨rfl, hb8⟩
  have H8 := Lib.hid (H7.out.drew.ext hb8)
  have hS8 : w8.cell? ⟨P, 31, none⟩ = some (.string ⟨nm.toArray⟩) ∧ w8.cell? ⟨P, 32, none⟩ = some (.int .i64 rv) ∧ w8.cell? ⟨P, 33, none⟩ = some (.string ⟨dgt.toArray⟩) := (let I := mst_in (m := ⟨b, nm, rv, dgt, co, br, ho, L⟩) (Blk.box (H8.out.at 1 rfl)); ⟨I.name, I.rev, I.digest⟩)
  refine hK.out _ _ (fun _ => hS8) (fun _ => ?_)
  clear hK K hHeld hb8 H7
  have hHeld := hS8
  try simp only [Act.put, List.setIfInBounds_toArray, List.set_cons_zero, List.set_cons_succ]
  refine wpAnyG_takeG 8 (oi := ?o60) (.string ⟨(([0] ++ nm) ++ (B7)).toArray⟩) ?hi60 (by kernel_rfl) (by kernel_rfl) (by decide) (by kernel_rfl) (by kernel_rfl) ?hq60 ?hg60 ?hy60 (by assumption) ?hk60
  case hi60 => (simp only [List.getElem?_toArray, List.getElem?_cons_succ, List.getElem?_cons_zero]; rfl)
  case hq60 => exact fun _ _ _ h => h
  case hg60 => (first | with_unfolding_all rfl | (go_simp; with_unfolding_all rfl))
  case hy60 => exact fun X hX => exec_addS ([0] ++ nm) (B7) (by with_unfolding_all rfl) (by with_unfolding_all rfl) (by simp only [List.length_append, List.length_cons, List.length_nil] <;> omega)
  try simp only [Act.put, List.setIfInBounds_toArray, List.set_cons_zero, List.set_cons_succ]
  refine wpAnyG_one 11 (o := ?o61) (by kernel_rfl) ?hi61 ?hg61 ?hk61
  case hi61 => (simp only [List.getElem?_toArray, List.getElem?_cons_succ, List.getElem?_cons_zero]; rfl)
  case hg61 => rfl
  intro K hK
  go_simp
  refine (MV.out _).mono ?_
  rintro e w9 ⟨rfl, hb9⟩
  have H9 := Lib.hid (H8.out.ext hb9)
  have hS9 : w9.cell? ⟨P, 31, none⟩ = some (.string ⟨nm.toArray⟩) ∧ w9.cell? ⟨P, 32, none⟩ = some (.int .i64 rv) ∧ w9.cell? ⟨P, 33, none⟩ = some (.string ⟨dgt.toArray⟩) := (let I := mst_in (m := ⟨b, nm, rv, dgt, co, br, ho, L⟩) (Blk.box (H9.out.at 1 rfl)); ⟨I.name, I.rev, I.digest⟩)
  refine hK.out _ _ (fun _ => hS9) (fun _ => ?_)
  clear hK K hHeld hb9 H8
  have hHeld := hS9
  try simp only [Act.put, List.setIfInBounds_toArray, List.set_cons_zero, List.set_cons_succ]
  refine wpAnyG_takeG 12 (oi := ?o62) (.string ⟨((([0] ++ nm) ++ B7) ++ (B3)).toArray⟩) ?hi62 (by kernel_rfl) (by kernel_rfl) (by decide) (by kernel_rfl) (by kernel_rfl) ?hq62 ?hg62 ?hy62 (by assumption) ?hk62
  case hi62 => (simp only [List.getElem?_toArray, List.getElem?_cons_succ, List.getElem?_cons_zero]; rfl)
  case hq62 => exact fun _ _ _ h => h
  case hg62 => (first | with_unfolding_all rfl | (go_simp; with_unfolding_all rfl))
  case hy62 => exact fun X hX => exec_addS (([0] ++ nm) ++ B7) (B3) (by with_unfolding_all rfl) (by with_unfolding_all rfl) (by simp only [List.length_append, List.length_cons, List.length_nil, l3] <;> omega)
  try simp only [Act.put, List.setIfInBounds_toArray, List.set_cons_zero, List.set_cons_succ]
  refine wpAnyG_takeG 15 (oi := ?o63) (.string ⟨(((([0] ++ nm) ++ B7) ++ B3) ++ (dgt)).toArray⟩) ?hi63 (by kernel_rfl) (by kernel_rfl) (by decide) (by kernel_rfl) (by kernel_rfl) ?hq63 ?hg63 ?hy63 (by assumption) ?hk63
  case hi63 => (simp only [List.getElem?_toArray, List.getElem?_cons_succ, List.getElem?_cons_zero]; rfl)
  case hq63 => exact fun _ _ _ h => h
  case hg63 => (first | with_unfolding_all rfl | (go_simp; with_unfolding_all rfl))
  case hy63 => exact fun X hX => exec_addS ((([0] ++ nm) ++ B7) ++ B3) (dgt) (by with_unfolding_all rfl) (by with_unfolding_all rfl) (by simp only [List.length_append, List.length_cons, List.length_nil, l3, dg] <;> omega)
  try simp only [Act.put, List.setIfInBounds_toArray, List.set_cons_zero, List.set_cons_succ]
  refine wpAnyG_one 16 (o := ?o64) (by kernel_rfl) ?hi64 ?hg64 ?hk64
  case hi64 => (simp only [List.getElem?_toArray, List.getElem?_cons_succ, List.getElem?_cons_zero]; rfl)
  case hg64 => rfl
  intro K hK
  go_simp
  refine (bwrite_st H9.out (Others.cons (bk_other (by decide)) Others.nil) _ (by simp only [List.length_append, List.length_cons, List.length_nil, l1, l2, l3, dg] <;> omega)).mono ?_
  rintro e w10 ⟨he, v10, h10⟩
  obtain ⟨rv10, rfl⟩ : ∃ x, e = .returned x := ⟨_, he⟩
  clear he
  have H10 := Lib.hid h10
  refine hK.out _ _ (fun h => absurd rfl h) (fun _ => ?_)
  refine wpAnyG_done (by kernel_rfl) ?_ _
  clear hK K hHeld h10 H9
  clear hS7 hS8 hS9
  go_upto_region 7 with (fail)
  have hS10 : w10.cell? ⟨P, 34, none⟩ = some (.int .i64 co) ∧ w10.cell? ⟨P, 43, none⟩ = some (.int .i64 ho) := (let I := mst_in (m := ⟨b, nm, rv, dgt, co, br, ho, L⟩) (Blk.box (H10.out.at 1 rfl)); ⟨I.cost, I.hops⟩)
  refine wp_region_last (fun X => X.cell? ⟨P, 34, none⟩ = some (.int .i64 co) ∧ X.cell? ⟨P, 43, none⟩ = some (.int .i64 ho)) 9 (by kernel_rfl) hS10 (fun hHeld => ?_)
  refine wpAnyG_takeG 0 (oi := ?o66) ?v66 ?hi66 (by kernel_rfl) (by kernel_rfl) (by decide) (by kernel_rfl) (by kernel_rfl) ?hq66 ?hg66 ?hy66 (by assumption) ?hk66
  case hi66 => (simp only [List.getElem?_toArray, List.getElem?_cons_succ, List.getElem?_cons_zero]; rfl)
  case hq66 => exact fun _ _ _ h => h
  case hg66 => (first | with_unfolding_all rfl | (go_simp; with_unfolding_all rfl))
  case hy66 => (intro X hX; (first | obtain ⟨hXa, hXb, hXc, hXd, hXe⟩ := hX | obtain ⟨hXa, hXb, hXc, hXd⟩ := hX | obtain ⟨hXa, hXb, hXc⟩ := hX | obtain ⟨hXa, hXb⟩ := hX | skip); go_simp; try with_reducible rfl)
  try simp only [Act.put, List.setIfInBounds_toArray, List.set_cons_zero, List.set_cons_succ]
  refine wpAnyG_takeG 3 (oi := ?o67) ?v67 ?hi67 (by kernel_rfl) (by kernel_rfl) (by decide) (by kernel_rfl) (by kernel_rfl) ?hq67 ?hg67 ?hy67 (by assumption) ?hk67
  case hi67 => (simp only [List.getElem?_toArray, List.getElem?_cons_succ, List.getElem?_cons_zero]; rfl)
  case hq67 => exact fun _ _ _ h => h
  case hg67 => (first | with_unfolding_all rfl | (go_simp; with_unfolding_all rfl))
  case hy67 => (intro X hX; (first | obtain ⟨hXa, hXb, hXc, hXd, hXe⟩ := hX | obtain ⟨hXa, hXb, hXc, hXd⟩ := hX | obtain ⟨hXa, hXb, hXc⟩ := hX | obtain ⟨hXa, hXb⟩ := hX | skip); go_simp; try with_reducible rfl)
  try simp only [Act.put, List.setIfInBounds_toArray, List.set_cons_zero, List.set_cons_succ]
  refine wpAnyG_takeG 5 (oi := ?o68) ?v68 ?hi68 (by kernel_rfl) (by kernel_rfl) (by decide) (by kernel_rfl) (by kernel_rfl) ?hq68 ?hg68 ?hy68 (by assumption) ?hk68
  case hi68 => (simp only [List.getElem?_toArray, List.getElem?_cons_succ, List.getElem?_cons_zero]; rfl)
  case hq68 => exact fun _ _ _ h => h
  case hg68 => (first | with_unfolding_all rfl | (go_simp; with_unfolding_all rfl))
  case hy68 => (intro X hX; (first | obtain ⟨hXa, hXb, hXc, hXd, hXe⟩ := hX | obtain ⟨hXa, hXb, hXc, hXd⟩ := hX | obtain ⟨hXa, hXb, hXc⟩ := hX | obtain ⟨hXa, hXb⟩ := hX | skip); go_simp; try with_reducible rfl)
  try simp only [Act.put, List.setIfInBounds_toArray, List.set_cons_zero, List.set_cons_succ]
  refine wpAnyG_takeG 1 (oi := ?o69) ?v69 ?hi69 (by kernel_rfl) (by kernel_rfl) (by decide) (by kernel_rfl) (by kernel_rfl) ?hq69 ?hg69 ?hy69 (by assumption) ?hk69
  case hi69 => (simp only [List.getElem?_toArray, List.getElem?_cons_succ, List.getElem?_cons_zero]; rfl)
  case hq69 => exact fun _ _ _ h => h
  case hg69 => (first | with_unfolding_all rfl | (go_simp; with_unfolding_all rfl))
  case hy69 => (intro X hX; (first | obtain ⟨hXa, hXb, hXc, hXd, hXe⟩ := hX | obtain ⟨hXa, hXb, hXc, hXd⟩ := hX | obtain ⟨hXa, hXb, hXc⟩ := hX | obtain ⟨hXa, hXb⟩ := hX | skip); go_simp; try with_reducible rfl)
  try simp only [Act.put, List.setIfInBounds_toArray, List.set_cons_zero, List.set_cons_succ]
  refine wpAnyG_takeG 6 (oi := ?o70) ?v70 ?hi70 (by kernel_rfl) (by kernel_rfl) (by decide) (by kernel_rfl) (by kernel_rfl) ?hq70 ?hg70 ?hy70 (by assumption) ?hk70
  case hi70 => (simp only [List.getElem?_toArray, List.getElem?_cons_succ, List.getElem?_cons_zero]; rfl)
  case hq70 => exact fun _ _ _ h => h
  case hg70 => (first | with_unfolding_all rfl | (go_simp; with_unfolding_all rfl))
  case hy70 => (intro X hX; (first | obtain ⟨hXa, hXb, hXc, hXd, hXe⟩ := hX | obtain ⟨hXa, hXb, hXc, hXd⟩ := hX | obtain ⟨hXa, hXb, hXc⟩ := hX | obtain ⟨hXa, hXb⟩ := hX | skip); go_simp; try with_reducible rfl)
  try simp only [Act.put, List.setIfInBounds_toArray, List.set_cons_zero, List.set_cons_succ]
  refine wpAnyG_one 2 (o := ?o71) (by kernel_rfl) ?hi71 ?hg71 ?hk71
  case hi71 => (simp only [List.getElem?_toArray, List.getElem?_cons_succ, List.getElem?_cons_zero]; rfl)
  case hg71 => rfl
  intro K hK
  go_simp
  refine (MC.out _).mono ?_
  rintro e w11 ⟨rfl, hb11⟩
  have H11 := Lib.hid (H10.out.drew.ext hb11)
  have hS11 : w11.cell? ⟨P, 34, none⟩ = some (.int .i64 co) ∧ w11.cell? ⟨P, 43, none⟩ = some (.int .i64 ho) := (let I := mst_in (m := ⟨b, nm, rv, dgt, co, br, ho, L⟩) (Blk.box (H11.out.at 1 rfl)); ⟨I.cost, I.hops⟩)
  refine hK.out _ _ (fun _ => hS11) (fun _ => ?_)
  clear hK K hHeld hb11 H10
  have hHeld := hS11
  try simp only [Act.put, List.setIfInBounds_toArray, List.set_cons_zero, List.set_cons_succ]
  refine wpAnyG_takeG 4 (oi := ?o72) (.string ⟨((B4) ++ (B5)).toArray⟩) ?hi72 (by kernel_rfl) (by kernel_rfl) (by decide) (by kernel_rfl) (by kernel_rfl) ?hq72 ?hg72 ?hy72 (by assumption) ?hk72
  case hi72 => (simp only [List.getElem?_toArray, List.getElem?_cons_succ, List.getElem?_cons_zero]; rfl)
  case hq72 => exact fun _ _ _ h => h
  case hg72 => (first | with_unfolding_all rfl | (go_simp; with_unfolding_all rfl))
  case hy72 => exact fun X hX => exec_addS (B4) (B5) (by with_unfolding_all rfl) (by with_unfolding_all rfl) (by simp only [List.length_append, List.length_cons, List.length_nil, l4, l5] <;> omega)
  try simp only [Act.put, List.setIfInBounds_toArray, List.set_cons_zero, List.set_cons_succ]
  refine wpAnyG_one 7 (o := ?o73) (by kernel_rfl) ?hi73 ?hg73 ?hk73
  case hi73 => (simp only [List.getElem?_toArray, List.getElem?_cons_succ, List.getElem?_cons_zero]; rfl)
  case hg73 => rfl
  intro K hK
  go_simp
  refine (MH.out _).mono ?_
  rintro e w12 ⟨rfl, hb12⟩
  have H12 := Lib.hid (H11.out.ext hb12)
  have hS12 : w12.cell? ⟨P, 34, none⟩ = some (.int .i64 co) ∧ w12.cell? ⟨P, 43, none⟩ = some (.int .i64 ho) := (let I := mst_in (m := ⟨b, nm, rv, dgt, co, br, ho, L⟩) (Blk.box (H12.out.at 1 rfl)); ⟨I.cost, I.hops⟩)
  refine hK.out _ _ (fun _ => hS12) (fun _ => ?_)
  clear hK K hHeld hb12 H11
  have hHeld := hS12
  try simp only [Act.put, List.setIfInBounds_toArray, List.set_cons_zero, List.set_cons_succ]
  refine wpAnyG_takeG 8 (oi := ?o74) (.string ⟨((B4 ++ B5) ++ (B6)).toArray⟩) ?hi74 (by kernel_rfl) (by kernel_rfl) (by decide) (by kernel_rfl) (by kernel_rfl) ?hq74 ?hg74 ?hy74 (by assumption) ?hk74
  case hi74 => (simp only [List.getElem?_toArray, List.getElem?_cons_succ, List.getElem?_cons_zero]; rfl)
  case hq74 => exact fun _ _ _ h => h
  case hg74 => (first | with_unfolding_all rfl | (go_simp; with_unfolding_all rfl))
  case hy74 => exact fun X hX => exec_addS (B4 ++ B5) (B6) (by with_unfolding_all rfl) (by with_unfolding_all rfl) (by simp only [List.length_append, List.length_cons, List.length_nil, l4, l5, l6] <;> omega)
  try simp only [Act.put, List.setIfInBounds_toArray, List.set_cons_zero, List.set_cons_succ]
  refine wpAnyG_one 9 (o := ?o75) (by kernel_rfl) ?hi75 ?hg75 ?hk75
  case hi75 => (simp only [List.getElem?_toArray, List.getElem?_cons_succ, List.getElem?_cons_zero]; rfl)
  case hg75 => rfl
  intro K hK
  go_simp
  refine (bwrite_st H12.out (Others.cons (bk_other (by decide)) Others.nil) _ (by simp only [List.length_append, List.length_cons, List.length_nil, l1, l2, l3, l4, l5, l6, dg] <;> omega)).mono ?_
  rintro e w13 ⟨he, v13, h13⟩
  obtain ⟨rv13, rfl⟩ : ∃ x, e = .returned x := ⟨_, he⟩
  clear he
  have H13 := Lib.hid h13
  refine hK.out _ _ (fun h => absurd rfl h) (fun _ => ?_)
  refine wpAnyG_done (by kernel_rfl) ?_ _
  clear hK K hHeld h13 H12
  clear hS10 hS11 hS12
  obtain ⟨PRE, lPRE, HPRE, H13⟩ : ∃ PRE : List UInt8, PRE.length = 102 ∧ Hid (PRE = headMst ++ (B1 ++ ([0] ++ (B2 ++ ([0] ++ ((nm ++ B7) ++ (B3 ++ (dgt ++ (B4 ++ (B5 ++ B6)))))))))) ∧ Hid (St P w w13 (sb P bb v13 PRE :: bk P 47 (Mst.vals ⟨b, nm, rv, dgt, co, br, ho, L⟩ (.slice A n cap)) :: [])) := ⟨_, by simp only [List.length_append, List.length_cons, List.length_nil, l1, l2, l3, l4, l5, l6, dg] <;> omega, Lib.hid (by simp [headMst, List.append_assoc]), H13⟩
  clear MB PB ML MR MV MC MH h32 h16 h64
  have I13 := (mst_in (Blk.box (H13.out.at 1 rfl))).insts
  go_upto_region 9 with (fail)
  go_loopw [8, 9, 10, 64] (fun _ _ _ i wr => ∃ (k : Nat) (v : Value), k ≤ n ∧ i = .int .i64 k ∧ Hid (St P w wr (sb P bb v (PRE ++ insBytes (L.take k)) :: bk P 47 (Mst.vals ⟨b, nm, rv, dgt, co, br, ho, L⟩ (.slice A n cap)) :: []))) (fun _ _ _ i _ => n - (intOf i).toNat)
  case atStart => exact ⟨0, v13, by omega, rfl, by simpa [insBytes] using H13⟩
  case round =>
    obtain ⟨k, v, hk, rfl, HS⟩ := hrel
    clear I13
    by_cases hlt : k < n
    · have hkx : k < L.length := by rw [Hlen.out]; exact hlt
      obtain ⟨g, o, rfl, hg, hc⟩ := Hr.out (by rw [List.length_map]; omega)
      have hc1 := hc k (by rw [List.length_map]; exact hkx)
      have e1 : (L.map Ins.vals)[k]'(by rw [List.length_map]; exact hkx) = L[k].vals := by simp
      rw [e1] at hc1
      have Hc1 := Lib.hid (rangeAt_below hc1 HS.out.below hg)
      have Hstep := Lib.hid (insBytes_take hkx)
      have hl1 := insBytes_take_len L k (by omega)
      have hxo : (L[k]).okB = true := Hok.out _ (List.getElem_mem hkx)
      clear hc hc1 e1
      generalize L[k] = x at *
      have hX := Ins.ok_iff.1 hxo
      have XF := Lib.hid (fun W => byteF_any x.fl hX.fl W)
      have XR := Lib.hid (fun W => pack_ok x.root hX.root W)
      have hfb := Fl.byte_lt x.fl hX.fl
      have XF1 : Hid (∀ W, Calls Tryd.prog 43 #[.int .i64 (x.fl.byte : Int), .int .i64 1] W fun e w' => e = .returned (.string ⟨(beBytes x.fl.byte 1).toArray⟩) ∧ Below W.heap.size W w') := Lib.hid (fun W => must_ok x.fl.byte 1 (by decide) (by decide) (by omega) W)
      have XC := must_int (n := 4) hX.c0 (by decide) (by decide) (by have := hX.c1; have := hX.c0; omega)
      have XB := must_int (x := x.bridge * 16) (n := 1) (by have := hX.b0; omega) (by decide) (by decide) (by have := hX.b1; have := hX.b0; omega)
      have XP := must_int (x := x.port * 16) (n := 1) (by have := hX.p0; omega) (by decide) (by decide) (by have := hX.p1; have := hX.p0; omega)
      have XH := must_int (n := 1) hX.h0 (by decide) (by decide) (by have := hX.h1; have := hX.h0; omega)
      have hwb : IntKind.i64.wrap (x.bridge * 16) = x.bridge * 16 := by have := hX.b1; have := hX.b0; rw [IntKind.wrap_i64]; omega
      have hwp : IntKind.i64.wrap (x.port * 16) = x.port * 16 := by have := hX.p1; have := hX.p0; rw [IntKind.wrap_i64]; omega
      have HXB : Hid (x.bytes = ((((beBytes x.fl.byte 1 ++ x.root.bytes) ++ beBytes x.cost.toNat 4) ++ beBytes (x.bridge * 16).toNat 1) ++ beBytes (x.port * 16).toNat 1) ++ beBytes x.hops.toNat 1) := Lib.hid rfl
      have e1 : (beBytes x.fl.byte 1).length = 1 := beBytes_len _ _
      have e2 : x.root.bytes.length = 8 := Br.bytes_len _
      have e3 : (beBytes x.cost.toNat 4).length = 4 := beBytes_len _ _
      have e4 : (beBytes (x.bridge * 16).toNat 1).length = 1 := beBytes_len _ _
      have e5 : (beBytes (x.port * 16).toNat 1).length = 1 := beBytes_len _ _
      have e6 : (beBytes x.hops.toNat 1).length = 1 := beBytes_len _ _
      clear hX hxo hfb
      generalize x.bytes = XBY at *
      generalize beBytes x.fl.byte 1 = E1 at *
      generalize x.root.bytes = E2 at *
      generalize beBytes x.cost.toNat 4 = E3 at *
      generalize beBytes (x.bridge * 16).toNat 1 = E4 at *
      generalize beBytes (x.port * 16).toNat 1 = E5 at *
      generalize beBytes x.hops.toNat 1 = E6 at *
      go_upto_region 11 with (first
        | ((with_reducible refine wpList_load_rng (ty := 104) (b := ?b76) (o := ?o76) (ds := ?ds76) x.vals ?hx76 ?hB76 ?hu76 ?hd76 ?hi76 ?hk76)
           case hx76 => rfl
           case hB76 => exact Hc1.out
           case hu76 => exact Tryd.underlying104
           case hd76 => rfl
           case hi76 => exact info104)
        | ((with_reducible refine wpList_store_blk (ty := 104) (b := ?b77) (o := ?o77) (t := 104) zIns x.vals ?hx77 ?hy77 ?hB77 ?ho77 ?hi77 ?h177 ?hk77)
           case hx77 => rfl
           case hy77 => rfl
           case hB77 => exact Blk.new wr zIns 104
           case ho77 => exact Nat.le_refl _
           case hi77 => exact info104
           case h177 => exact (Ins.one _)
           intro W14 hBW14 hoW14))
      have H14 : Hid (St P w W14 (sb P bb v (PRE ++ insBytes (L.take k)) :: bk wr.heap.size 104 x.vals :: bk P 47 (Mst.vals ⟨b, nm, rv, dgt, co, br, ho, L⟩ (.slice (some ⟨g, o, none⟩) n cap)) :: [])) := Lib.hid ((HS.out.alloc zIns 104).sets (L' := x.vals) hBW14 hoW14).swap
      clear hBW14 hoW14 HS
      generalize wr.heap.size = Q at *
      have R14 := Lib.hid (ins_in (Blk.box (H14.out.at 1 rfl))).root
      generalize insBytes (L.take k) = T at *
      go_upto_region 12 with (first
        | (with_reducible refine wpList_load_rng (ty := 40) x.root.vals (by with_unfolding_all rfl) R14.out Tryd.underlying40 (by with_unfolding_all rfl) (by with_unfolding_all exact info40) ?_)
        | ((with_reducible refine (XR.out _).mono ?_)
           rintro e w15 ⟨rfl, hb15⟩
           have H15 := Lib.hid (H14.out.ext hb15)
           clear hb15))
      clear R14 H14 Hc1
      have hS15 : w15.rangeAt Q 0 x.fl.vals ∧ w15.cell? ⟨Q, 15, none⟩ = some (.int .i64 x.cost) ∧ w15.cell? ⟨Q, 16, none⟩ = some (.int .i64 x.bridge) ∧ w15.cell? ⟨Q, 17, none⟩ = some (.int .i64 x.port) ∧ w15.cell? ⟨Q, 18, none⟩ = some (.int .i64 x.hops) := (let I := ins_in (x := x) (Blk.box (H15.out.at 1 rfl)); ⟨I.fl, I.cost, I.bridge, I.port, I.hops⟩)
      refine wp_region_last (fun X => X.rangeAt Q 0 x.fl.vals ∧ X.cell? ⟨Q, 15, none⟩ = some (.int .i64 x.cost) ∧ X.cell? ⟨Q, 16, none⟩ = some (.int .i64 x.bridge) ∧ X.cell? ⟨Q, 17, none⟩ = some (.int .i64 x.port) ∧ X.cell? ⟨Q, 18, none⟩ = some (.int .i64 x.hops)) 24 (by kernel_rfl) hS15 (fun hHeld => ?_)
      refine wpAnyG_takeG 0 (oi := ?o81) ?v81 ?hi81 (by kernel_rfl) (by kernel_rfl) (by decide) (by kernel_rfl) (by kernel_rfl) ?hq81 ?hg81 ?hy81 (by assumption) ?hk81
      case hi81 => (simp only [List.getElem?_toArray, List.getElem?_cons_succ, List.getElem?_cons_zero]; rfl)
      case hq81 => exact fun _ _ _ h => h
      case hg81 => (first | with_unfolding_all rfl | (go_simp; with_unfolding_all rfl))
      case hy81 => (intro X hX; (first | obtain ⟨hXa, hXb, hXc, hXd, hXe⟩ := hX | obtain ⟨hXa, hXb, hXc, hXd⟩ := hX | obtain ⟨hXa, hXb, hXc⟩ := hX | obtain ⟨hXa, hXb⟩ := hX | skip); go_simp; try with_reducible rfl)
      try simp only [Act.put, List.setIfInBounds_toArray, List.set_cons_zero, List.set_cons_succ]
      refine wpAnyG_takeG 4 (oi := ?o82) ?v82 ?hi82 (by kernel_rfl) (by kernel_rfl) (by decide) (by kernel_rfl) (by kernel_rfl) ?hq82 ?hg82 ?hy82 (by assumption) ?hk82
      case hi82 => (simp only [List.getElem?_toArray, List.getElem?_cons_succ, List.getElem?_cons_zero]; rfl)
      case hq82 => exact fun _ _ _ h => h
      case hg82 => (first | with_unfolding_all rfl | (go_simp; with_unfolding_all rfl))
      case hy82 => (intro X hX; (first | obtain ⟨hXa, hXb, hXc, hXd, hXe⟩ := hX | obtain ⟨hXa, hXb, hXc, hXd⟩ := hX | obtain ⟨hXa, hXb, hXc⟩ := hX | obtain ⟨hXa, hXb⟩ := hX | skip); go_simp; try with_reducible rfl)
      try simp only [Act.put, List.setIfInBounds_toArray, List.set_cons_zero, List.set_cons_succ]
      refine wpAnyG_takeG 6 (oi := ?o83) ?v83 ?hi83 (by kernel_rfl) (by kernel_rfl) (by decide) (by kernel_rfl) (by kernel_rfl) ?hq83 ?hg83 ?hy83 (by assumption) ?hk83
      case hi83 => (simp only [List.getElem?_toArray, List.getElem?_cons_succ, List.getElem?_cons_zero]; rfl)
      case hq83 => exact fun _ _ _ h => h
      case hg83 => (first | with_unfolding_all rfl | (go_simp; with_unfolding_all rfl))
      case hy83 => (intro X hX; (first | obtain ⟨hXa, hXb, hXc, hXd, hXe⟩ := hX | obtain ⟨hXa, hXb, hXc, hXd⟩ := hX | obtain ⟨hXa, hXb, hXc⟩ := hX | obtain ⟨hXa, hXb⟩ := hX | skip); go_simp; try with_reducible rfl)
      try simp only [Act.put, List.setIfInBounds_toArray, List.set_cons_zero, List.set_cons_succ]
      refine wpAnyG_takeG 10 (oi := ?o84) ?v84 ?hi84 (by kernel_rfl) (by kernel_rfl) (by decide) (by kernel_rfl) (by kernel_rfl) ?hq84 ?hg84 ?hy84 (by assumption) ?hk84
      case hi84 => (simp only [List.getElem?_toArray, List.getElem?_cons_succ, List.getElem?_cons_zero]; rfl)
      case hq84 => exact fun _ _ _ h => h
      case hg84 => (first | with_unfolding_all rfl | (go_simp; with_unfolding_all rfl))
      case hy84 => (intro X hX; (first | obtain ⟨hXa, hXb, hXc, hXd, hXe⟩ := hX | obtain ⟨hXa, hXb, hXc, hXd⟩ := hX | obtain ⟨hXa, hXb, hXc⟩ := hX | obtain ⟨hXa, hXb⟩ := hX | skip); go_simp; try with_reducible rfl)
      try simp only [Act.put, List.setIfInBounds_toArray, List.set_cons_zero, List.set_cons_succ]
      refine wpAnyG_takeG 15 (oi := ?o85) ?v85 ?hi85 (by kernel_rfl) (by kernel_rfl) (by decide) (by kernel_rfl) (by kernel_rfl) ?hq85 ?hg85 ?hy85 (by assumption) ?hk85
      case hi85 => (simp only [List.getElem?_toArray, List.getElem?_cons_succ, List.getElem?_cons_zero]; rfl)
      case hq85 => exact fun _ _ _ h => h
      case hg85 => (first | with_unfolding_all rfl | (go_simp; with_unfolding_all rfl))
      case hy85 => (intro X hX; (first | obtain ⟨hXa, hXb, hXc, hXd, hXe⟩ := hX | obtain ⟨hXa, hXb, hXc, hXd⟩ := hX | obtain ⟨hXa, hXb, hXc⟩ := hX | obtain ⟨hXa, hXb⟩ := hX | skip); go_simp; try with_reducible rfl)
      try simp only [Act.put, List.setIfInBounds_toArray, List.set_cons_zero, List.set_cons_succ]
      refine wpAnyG_takeG 20 (oi := ?o86) ?v86 ?hi86 (by kernel_rfl) (by kernel_rfl) (by decide) (by kernel_rfl) (by kernel_rfl) ?hq86 ?hg86 ?hy86 (by assumption) ?hk86
      case hi86 => (simp only [List.getElem?_toArray, List.getElem?_cons_succ, List.getElem?_cons_zero]; rfl)
      case hq86 => exact fun _ _ _ h => h
      case hg86 => (first | with_unfolding_all rfl | (go_simp; with_unfolding_all rfl))
      case hy86 => (intro X hX; (first | obtain ⟨hXa, hXb, hXc, hXd, hXe⟩ := hX | obtain ⟨hXa, hXb, hXc, hXd⟩ := hX | obtain ⟨hXa, hXb, hXc⟩ := hX | obtain ⟨hXa, hXb⟩ := hX | skip); go_simp; try with_reducible rfl)
      try simp only [Act.put, List.setIfInBounds_toArray, List.set_cons_zero, List.set_cons_succ]
      refine wpAnyG_take 1 (oi := ?o87) (.agg (x.fl.vals).toArray) ?hi87 (by kernel_rfl) (by kernel_rfl) (by decide) (by kernel_rfl) (by kernel_rfl) ?hq87 ?hg87 ?hy87 (by assumption) ?hk87
      case hi87 => (simp only [List.getElem?_toArray, List.getElem?_cons_succ, List.getElem?_cons_zero]; rfl)
      case hq87 => exact fun _ _ _ h => h
      case hg87 => rfl
      case hy87 => exact fun X hX => exec_load_rng (ty := 38) (x.fl.vals) rfl (hX.1) Tryd.underlying38 rfl info38
      try simp only [Act.put, List.setIfInBounds_toArray, List.set_cons_zero, List.set_cons_succ]
      refine wpAnyG_takeG 7 (oi := ?o89) ?v89 ?hi89 (by kernel_rfl) (by kernel_rfl) (by decide) (by kernel_rfl) (by kernel_rfl) ?hq89 ?hg89 ?hy89 (by assumption) ?hk89
      case hi89 => (simp only [List.getElem?_toArray, List.getElem?_cons_succ, List.getElem?_cons_zero]; rfl)
      case hq89 => exact fun _ _ _ h => h
      case hg89 => (first | with_unfolding_all rfl | (go_simp; with_unfolding_all rfl))
      case hy89 => (intro X hX; (first | obtain ⟨hXa, hXb, hXc, hXd, hXe⟩ := hX | obtain ⟨hXa, hXb, hXc, hXd⟩ := hX | obtain ⟨hXa, hXb, hXc⟩ := hX | obtain ⟨hXa, hXb⟩ := hX | skip); go_simp; try with_reducible rfl)
      try simp only [Act.put, List.setIfInBounds_toArray, List.set_cons_zero, List.set_cons_succ]
      refine wpAnyG_takeG 11 (oi := ?o90) ?v90 ?hi90 (by kernel_rfl) (by kernel_rfl) (by decide) (by kernel_rfl) (by kernel_rfl) ?hq90 ?hg90 ?hy90 (by assumption) ?hk90
      case hi90 => (simp only [List.getElem?_toArray, List.getElem?_cons_succ, List.getElem?_cons_zero]; rfl)
      case hq90 => exact fun _ _ _ h => h
      case hg90 => (first | with_unfolding_all rfl | (go_simp; with_unfolding_all rfl))
      case hy90 => (intro X hX; (first | obtain ⟨hXa, hXb, hXc, hXd, hXe⟩ := hX | obtain ⟨hXa, hXb, hXc, hXd⟩ := hX | obtain ⟨hXa, hXb, hXc⟩ := hX | obtain ⟨hXa, hXb⟩ := hX | skip); go_simp; try with_reducible rfl)
      try simp only [Act.put, List.setIfInBounds_toArray, List.set_cons_zero, List.set_cons_succ]
      refine wpAnyG_takeG 16 (oi := ?o91) ?v91 ?hi91 (by kernel_rfl) (by kernel_rfl) (by decide) (by kernel_rfl) (by kernel_rfl) ?hq91 ?hg91 ?hy91 (by assumption) ?hk91
      case hi91 => (simp only [List.getElem?_toArray, List.getElem?_cons_succ, List.getElem?_cons_zero]; rfl)
      case hq91 => exact fun _ _ _ h => h
      case hg91 => (first | with_unfolding_all rfl | (go_simp; with_unfolding_all rfl))
      case hy91 => (intro X hX; (first | obtain ⟨hXa, hXb, hXc, hXd, hXe⟩ := hX | obtain ⟨hXa, hXb, hXc, hXd⟩ := hX | obtain ⟨hXa, hXb, hXc⟩ := hX | obtain ⟨hXa, hXb⟩ := hX | skip); go_simp; try with_reducible rfl)
      try simp only [Act.put, List.setIfInBounds_toArray, List.set_cons_zero, List.set_cons_succ]
      refine wpAnyG_takeG 21 (oi := ?o92) ?v92 ?hi92 (by kernel_rfl) (by kernel_rfl) (by decide) (by kernel_rfl) (by kernel_rfl) ?hq92 ?hg92 ?hy92 (by assumption) ?hk92
      case hi92 => (simp only [List.getElem?_toArray, List.getElem?_cons_succ, List.getElem?_cons_zero]; rfl)
      case hq92 => exact fun _ _ _ h => h
      case hg92 => (first | with_unfolding_all rfl | (go_simp; with_unfolding_all rfl))
      case hy92 => (intro X hX; (first | obtain ⟨hXa, hXb, hXc, hXd, hXe⟩ := hX | obtain ⟨hXa, hXb, hXc, hXd⟩ := hX | obtain ⟨hXa, hXb, hXc⟩ := hX | obtain ⟨hXa, hXb⟩ := hX | skip); go_simp; try with_reducible rfl)
      try simp only [Act.put, List.setIfInBounds_toArray, List.set_cons_zero, List.set_cons_succ]
      refine wpAnyG_takeG 12 (oi := ?o93) ?v93 ?hi93 (by kernel_rfl) (by kernel_rfl) (by decide) (by kernel_rfl) (by kernel_rfl) ?hq93 ?hg93 ?hy93 (by assumption) ?hk93
      case hi93 => (simp only [List.getElem?_toArray, List.getElem?_cons_succ, List.getElem?_cons_zero]; rfl)
      case hq93 => exact fun _ _ _ h => h
      case hg93 => (first | with_unfolding_all rfl | (go_simp; with_unfolding_all rfl))
      case hy93 => (intro X hX; (first | obtain ⟨hXa, hXb, hXc, hXd, hXe⟩ := hX | obtain ⟨hXa, hXb, hXc, hXd⟩ := hX | obtain ⟨hXa, hXb, hXc⟩ := hX | obtain ⟨hXa, hXb⟩ := hX | skip); go_simp; try with_reducible rfl)
      try simp only [Act.put, List.setIfInBounds_toArray, List.set_cons_zero, List.set_cons_succ]
      refine wpAnyG_takeG 17 (oi := ?o94) ?v94 ?hi94 (by kernel_rfl) (by kernel_rfl) (by decide) (by kernel_rfl) (by kernel_rfl) ?hq94 ?hg94 ?hy94 (by assumption) ?hk94
      case hi94 => (simp only [List.getElem?_toArray, List.getElem?_cons_succ, List.getElem?_cons_zero]; rfl)
      case hq94 => exact fun _ _ _ h => h
      case hg94 => (first | with_unfolding_all rfl | (go_simp; with_unfolding_all rfl))
      case hy94 => (intro X hX; (first | obtain ⟨hXa, hXb, hXc, hXd, hXe⟩ := hX | obtain ⟨hXa, hXb, hXc, hXd⟩ := hX | obtain ⟨hXa, hXb, hXc⟩ := hX | obtain ⟨hXa, hXb⟩ := hX | skip); go_simp; try with_reducible rfl)
      try simp only [Act.put, List.setIfInBounds_toArray, List.set_cons_zero, List.set_cons_succ]
      refine wpAnyG_one 2 (o := ?o95) (by kernel_rfl) ?hi95 ?hg95 ?hk95
      case hi95 => (simp only [List.getElem?_toArray, List.getElem?_cons_succ, List.getElem?_cons_zero]; rfl)
      case hg95 => rfl
      intro K hK
      go_simp
      refine (XF.out _).mono ?_
      rintro e w16 ⟨rfl, hb16⟩
      have H16 := Lib.hid (H15.out.drew.ext hb16)
      have hS16 : w16.rangeAt Q 0 x.fl.vals ∧ w16.cell? ⟨Q, 15, none⟩ = some (.int .i64 x.cost) ∧ w16.cell? ⟨Q, 16, none⟩ = some (.int .i64 x.bridge) ∧ w16.cell? ⟨Q, 17, none⟩ = some (.int .i64 x.port) ∧ w16.cell? ⟨Q, 18, none⟩ = some (.int .i64 x.hops) := (let I := ins_in (x := x) (Blk.box (H16.out.at 1 rfl)); ⟨I.fl, I.cost, I.bridge, I.port, I.hops⟩)
      refine hK.out _ _ (fun _ => hS16) (fun _ => ?_)
      clear hK K hHeld hb16 H15
      have hHeld := hS16
      try simp only [Act.put, List.setIfInBounds_toArray, List.set_cons_zero, List.set_cons_succ]
      refine wpAnyG_one 3 (o := ?o96) (by kernel_rfl) ?hi96 ?hg96 ?hk96
      case hi96 => (simp only [List.getElem?_toArray, List.getElem?_cons_succ, List.getElem?_cons_zero]; rfl)
      case hg96 => rfl
      intro K hK
      go_simp
      refine (XF1.out _).mono ?_
      rintro e w17 ⟨rfl, hb17⟩
      have H17 := Lib.hid (H16.out.ext hb17)
      have hS17 : w17.rangeAt Q 0 x.fl.vals ∧ w17.cell? ⟨Q, 15, none⟩ = some (.int .i64 x.cost) ∧ w17.cell? ⟨Q, 16, none⟩ = some (.int .i64 x.bridge) ∧ w17.cell? ⟨Q, 17, none⟩ = some (.int .i64 x.port) ∧ w17.cell? ⟨Q, 18, none⟩ = some (.int .i64 x.hops) := (let I := ins_in (x := x) (Blk.box (H17.out.at 1 rfl)); ⟨I.fl, I.cost, I.bridge, I.port, I.hops⟩)
      refine hK.out _ _ (fun _ => hS17) (fun _ => ?_)
      clear hK K hHeld hb17 H16
      have hHeld := hS17
      try simp only [Act.put, List.setIfInBounds_toArray, List.set_cons_zero, List.set_cons_succ]
      refine wpAnyG_takeG 5 (oi := ?o97) (.string ⟨((E1) ++ (E2)).toArray⟩) ?hi97 (by kernel_rfl) (by kernel_rfl) (by decide) (by kernel_rfl) (by kernel_rfl) ?hq97 ?hg97 ?hy97 (by assumption) ?hk97
      case hi97 => (simp only [List.getElem?_toArray, List.getElem?_cons_succ, List.getElem?_cons_zero]; rfl)
      case hq97 => exact fun _ _ _ h => h
      case hg97 => (first | with_unfolding_all rfl | (go_simp; with_unfolding_all rfl))
      case hy97 => exact fun X hX => exec_addS (E1) (E2) (by with_unfolding_all rfl) (by with_unfolding_all rfl) (by simp only [List.length_append, List.length_cons, List.length_nil, e1, e2] <;> omega)
      try simp only [Act.put, List.setIfInBounds_toArray, List.set_cons_zero, List.set_cons_succ]
      refine wpAnyG_one 8 (o := ?o98) (by kernel_rfl) ?hi98 ?hg98 ?hk98
      case hi98 => (simp only [List.getElem?_toArray, List.getElem?_cons_succ, List.getElem?_cons_zero]; rfl)
      case hg98 => rfl
      intro K hK
      go_simp
      refine (XC.out _).mono ?_
      rintro e w18 ⟨rfl, hb18⟩
      have H18 := Lib.hid (H17.out.ext hb18)
      have hS18 : w18.rangeAt Q 0 x.fl.vals ∧ w18.cell? ⟨Q, 15, none⟩ = some (.int .i64 x.cost) ∧ w18.cell? ⟨Q, 16, none⟩ = some (.int .i64 x.bridge) ∧ w18.cell? ⟨Q, 17, none⟩ = some (.int .i64 x.port) ∧ w18.cell? ⟨Q, 18, none⟩ = some (.int .i64 x.hops) := (let I := ins_in (x := x) (Blk.box (H18.out.at 1 rfl)); ⟨I.fl, I.cost, I.bridge, I.port, I.hops⟩)
      refine hK.out _ _ (fun _ => hS18) (fun _ => ?_)
      clear hK K hHeld hb18 H17
      have hHeld := hS18
      try simp only [Act.put, List.setIfInBounds_toArray, List.set_cons_zero, List.set_cons_succ]
      refine wpAnyG_takeG 9 (oi := ?o99) (.string ⟨((E1 ++ E2) ++ (E3)).toArray⟩) ?hi99 (by kernel_rfl) (by kernel_rfl) (by decide) (by kernel_rfl) (by kernel_rfl) ?hq99 ?hg99 ?hy99 (by assumption) ?hk99
      case hi99 => (simp only [List.getElem?_toArray, List.getElem?_cons_succ, List.getElem?_cons_zero]; rfl)
      case hq99 => exact fun _ _ _ h => h
      case hg99 => (first | with_unfolding_all rfl | (go_simp; with_unfolding_all rfl))
      case hy99 => exact fun X hX => exec_addS (E1 ++ E2) (E3) (by with_unfolding_all rfl) (by with_unfolding_all rfl) (by simp only [List.length_append, List.length_cons, List.length_nil, e1, e2, e3] <;> omega)
      try simp only [Act.put, List.setIfInBounds_toArray, List.set_cons_zero, List.set_cons_succ]
      refine wpAnyG_one 13 (o := ?o100) (by kernel_rfl) ?hi100 ?hg100 ?hk100
      case hi100 => (simp only [List.getElem?_toArray, List.getElem?_cons_succ, List.getElem?_cons_zero]; rfl)
      case hg100 => rfl
      intro K hK
      go_simp
      refine (XB.out _).mono ?_
      rintro e w19 ⟨rfl, hb19⟩
      have H19 := Lib.hid (H18.out.ext hb19)
      have hS19 : w19.rangeAt Q 0 x.fl.vals ∧ w19.cell? ⟨Q, 15, none⟩ = some (.int .i64 x.cost) ∧ w19.cell? ⟨Q, 16, none⟩ = some (.int .i64 x.bridge) ∧ w19.cell? ⟨Q, 17, none⟩ = some (.int .i64 x.port) ∧ w19.cell? ⟨Q, 18, none⟩ = some (.int .i64 x.hops) := (let I := ins_in (x := x) (Blk.box (H19.out.at 1 rfl)); ⟨I.fl, I.cost, I.bridge, I.port, I.hops⟩)
      refine hK.out _ _ (fun _ => hS19) (fun _ => ?_)
      clear hK K hHeld hb19 H18
      have hHeld := hS19
      try simp only [Act.put, List.setIfInBounds_toArray, List.set_cons_zero, List.set_cons_succ]
      refine wpAnyG_takeG 14 (oi := ?o101) (.string ⟨((E1 ++ (E2 ++ E3)) ++ (E4)).toArray⟩) ?hi101 (by kernel_rfl) (by kernel_rfl) (by decide) (by kernel_rfl) (by kernel_rfl) ?hq101 ?hg101 ?hy101 (by assumption) ?hk101
      case hi101 => (simp only [List.getElem?_toArray, List.getElem?_cons_succ, List.getElem?_cons_zero]; rfl)
      case hq101 => exact fun _ _ _ h => h
      case hg101 => (first | with_unfolding_all rfl | (go_simp; with_unfolding_all rfl))
      case hy101 => exact fun X hX => exec_addS (E1 ++ (E2 ++ E3)) (E4) (by with_unfolding_all rfl) (by with_unfolding_all rfl) (by simp only [List.length_append, List.length_cons, List.length_nil, e1, e2, e3, e4] <;> omega)
      try simp only [Act.put, List.setIfInBounds_toArray, List.set_cons_zero, List.set_cons_succ]
      refine wpAnyG_one 18 (o := ?o102) (by kernel_rfl) ?hi102 ?hg102 ?hk102
      case hi102 => (simp only [List.getElem?_toArray, List.getElem?_cons_succ, List.getElem?_cons_zero]; rfl)
      case hg102 => rfl
      intro K hK
      go_simp
      refine (XP.out _).mono ?_
      rintro e w20 ⟨rfl, hb20⟩
      have H20 := Lib.hid (H19.out.ext hb20)
      have hS20 : w20.rangeAt Q 0 x.fl.vals ∧ w20.cell? ⟨Q, 15, none⟩ = some (.int .i64 x.cost) ∧ w20.cell? ⟨Q, 16, none⟩ = some (.int .i64 x.bridge) ∧ w20.cell? ⟨Q, 17, none⟩ = some (.int .i64 x.port) ∧ w20.cell? ⟨Q, 18, none⟩ = some (.int .i64 x.hops) := (let I := ins_in (x := x) (Blk.box (H20.out.at 1 rfl)); ⟨I.fl, I.cost, I.bridge, I.port, I.hops⟩)
      refine hK.out _ _ (fun _ => hS20) (fun _ => ?_)
      clear hK K hHeld hb20 H19
      have hHeld := hS20
      try simp only [Act.put, List.setIfInBounds_toArray, List.set_cons_zero, List.set_cons_succ]
      refine wpAnyG_takeG 19 (oi := ?o103) (.string ⟨((E1 ++ (E2 ++ (E3 ++ E4))) ++ (E5)).toArray⟩) ?hi103 (by kernel_rfl) (by kernel_rfl) (by decide) (by kernel_rfl) (by kernel_rfl) ?hq103 ?hg103 ?hy103 (by assumption) ?hk103
      case hi103 => (simp only [List.getElem?_toArray, List.getElem?_cons_succ, List.getElem?_cons_zero]; rfl)
      case hq103 => exact fun _ _ _ h => h
      case hg103 => (first | with_unfolding_all rfl | (go_simp; with_unfolding_all rfl))
      case hy103 => exact fun X hX => exec_addS (E1 ++ (E2 ++ (E3 ++ E4))) (E5) (by with_unfolding_all rfl) (by with_unfolding_all rfl) (by simp only [List.length_append, List.length_cons, List.length_nil, e1, e2, e3, e4, e5] <;> omega)
      try simp only [Act.put, List.setIfInBounds_toArray, List.set_cons_zero, List.set_cons_succ]
      refine wpAnyG_one 22 (o := ?o104) (by kernel_rfl) ?hi104 ?hg104 ?hk104
      case hi104 => (simp only [List.getElem?_toArray, List.getElem?_cons_succ, List.getElem?_cons_zero]; rfl)
      case hg104 => rfl
      intro K hK
      go_simp
      refine (XH.out _).mono ?_
      rintro e w21 ⟨rfl, hb21⟩
      have H21 := Lib.hid (H20.out.ext hb21)
      have hS21 : w21.rangeAt Q 0 x.fl.vals ∧ w21.cell? ⟨Q, 15, none⟩ = some (.int .i64 x.cost) ∧ w21.cell? ⟨Q, 16, none⟩ = some (.int .i64 x.bridge) ∧ w21.cell? ⟨Q, 17, none⟩ = some (.int .i64 x.port) ∧ w21.cell? ⟨Q, 18, none⟩ = some (.int .i64 x.hops) := (let I := ins_in (x := x) (Blk.box (H21.out.at 1 rfl)); ⟨I.fl, I.cost, I.bridge, I.port, I.hops⟩)
      refine hK.out _ _ (fun _ => hS21) (fun _ => ?_)
      clear hK K hHeld hb21 H20
      have hHeld := hS21
      try simp only [Act.put, List.setIfInBounds_toArray, List.set_cons_zero, List.set_cons_succ]
      refine wpAnyG_takeG 23 (oi := ?o105) (.string ⟨((E1 ++ (E2 ++ (E3 ++ (E4 ++ E5)))) ++ (E6)).toArray⟩) ?hi105 (by kernel_rfl) (by kernel_rfl) (by decide) (by kernel_rfl) (by kernel_rfl) ?hq105 ?hg105 ?hy105 (by assumption) ?hk105
      case hi105 => (simp only [List.getElem?_toArray, List.getElem?_cons_succ, List.getElem?_cons_zero]; rfl)
      case hq105 => exact fun _ _ _ h => h
      case hg105 => (first | with_unfolding_all rfl | (go_simp; with_unfolding_all rfl))
      case hy105 => exact fun X hX => exec_addS (E1 ++ (E2 ++ (E3 ++ (E4 ++ E5)))) (E6) (by with_unfolding_all rfl) (by with_unfolding_all rfl) (by simp only [List.length_append, List.length_cons, List.length_nil, e1, e2, e3, e4, e5, e6] <;> omega)
      try simp only [Act.put, List.setIfInBounds_toArray, List.set_cons_zero, List.set_cons_succ]
      refine wpAnyG_one 24 (o := ?o106) (by kernel_rfl) ?hi106 ?hg106 ?hk106
      case hi106 => (simp only [List.getElem?_toArray, List.getElem?_cons_succ, List.getElem?_cons_zero]; rfl)
      case hg106 => rfl
      intro K hK
      go_simp
      refine (bwrite_st H21.out (Others.cons (bk_other (by decide)) (Others.cons (bk_other (by decide)) Others.nil)) _ (by simp only [List.length_append, List.length_cons, List.length_nil, e1, e2, e3, e4, e5, e6] <;> omega)).mono ?_
      rintro e w22 ⟨he, v22, h22⟩
      obtain ⟨rv22, rfl⟩ : ∃ x, e = .returned x := ⟨_, he⟩
      clear he
      have H22 := Lib.hid h22
      refine hK.out _ _ (fun h => absurd rfl h) (fun _ => ?_)
      refine wpAnyG_done (by kernel_rfl) ?_ _
      clear hK K hHeld h22 H21
      go_wp2_with fail
      go_roundw
      case rel => exact ⟨k + 1, v22, by omega, by go_num, Lib.hid (by rw [Hstep.out, HXB.out]; have h22 := H22.out.swap.tail; simpa [List.append_assoc] using h22)⟩
      case measure => simp [intOf]; omega
    · obtain rfl : k = n := by omega
      have ht : L.take k = L := List.take_of_length_le (by rw [Hlen.out]; exact Nat.le_refl _)
      rw [ht] at HS
      clear ht hlt
      have HBZ : Hid (BY = PRE ++ insBytes L) := Lib.hid (by rw [HBY.out, HPRE.out]; simp [List.append_assoc])
      generalize insBytes L = BL at *
      go_wp2_with fail
      refine (bstring_st HS.out (Others.cons (bk_other (by decide)) Others.nil)).mono ?_
      rintro e w6 ⟨rfl, v', h6⟩
      have H6 := Lib.hid h6
      clear h6
      go_wp2_with fail
      go_ret2
      exact ⟨by rw [HBZ.out]; rfl, by rw [hb0]; exact H6.out.below⟩
end Go.Proofs.YteibhcocldihbaaDoor
namespace Go.Proofs.YteibhcocldihbaaDoor
open Go.RowKit
/-- A row of one's own. -/
def ownI (t size : Nat) (sv : Value) (n : Nat) (xs : List Value) : It where
  gs := sv.ownBlock.toList
  P w := w.ownsRow 0 t size sv n xs
  lt w h g hg := (h.lt g (by simpa [eq_comm] using hg)).2
  loc w W h hs hp := by
    refine ⟨hp.1, ?_⟩
    rcases hp.2 with h' | ⟨g, cap, cur, e1, e2, hh, r⟩
    · exact .inl h'
    · exact .inr ⟨g, cap, cur, e1, e2, (h g (by rw [e1]; simp [Value.ownBlock])).trans hh, r⟩
theorem ownI_nil (w : World) (t size : Nat) : (ownI t size (.slice none 0 0) 0 []).P w := ⟨by simp, .inl ⟨rfl, rfl⟩⟩
theorem St.own0 {B : Nat} {w0 w : World} {A : List It} (h : St B w0 w A) (t size : Nat) : St B w0 w (ownI t size (.slice none 0 0) 0 [] :: A) :=
  h.add (Below.refl _ _) (ownI_nil w t size) (fun g hg => by
    have : g ∈ ([] : List Nat) := hg
    cases this)
theorem St.toOwn {B : Nat} {w0 w : World} {A : List It} {g t n size : Nat} {L : List Value} (h : St B w0 w (bk g t L :: A)) (hL : L.length = n * size) (hn : n ≤ maxLen) : St B w0 w (ownI t size (.slice (some ⟨g, 0, none⟩) n n) n L :: A) :=
  h.step (k' := ownI t size (.slice (some ⟨g, 0, none⟩) n n) n L) (Fr.refl _ _) ⟨hL, .inr ⟨g, n, L.toArray, rfl, Nat.zero_le _, h.head, Nat.le_refl _, hn, by simpa using hL, by simp [← hL]⟩⟩ (fun x hx => .inl hx)
theorem Fr.mono {gs hs : List Nat} {w W : World} (h : Fr gs w W) (hg : ∀ g ∈ gs, g ∈ hs) : Fr hs w W := ⟨h.os, h.tape, h.output, h.size, fun k hk hn => h.block k hk (fun e => hn (hg k e))⟩
theorem St.grown {B : Nat} {w0 w w' : World} {A : List It} {t size n m g cap : Nat} {sv : Value} {xs news : List Value} (H : St B w0 w (ownI t size sv n xs :: A))
    (ho : w'.ownsRow 0 t size (.slice (some ⟨g, 0, none⟩) (n + m) cap) (n + m) (xs ++ news)) (hgrow : w.grownBy w' sv.ownBlock) (hat : sv.ownBlock = some g ∨ g = w.heap.size) :
    St B w0 w' (ownI t size (.slice (some ⟨g, 0, none⟩) (n + m) cap) (n + m) (xs ++ news) :: A) :=
  H.step (k' := ownI t size (.slice (some ⟨g, 0, none⟩) (n + m) cap) (n + m) (xs ++ news)) ⟨hgrow.os, hgrow.tape, hgrow.output, hgrow.size, fun q hq hn => hgrow.block q hq (fun e => hn (by
    show q ∈ sv.ownBlock.toList
    rw [← e]; simp))⟩ ho (fun q hq => by
    have hq' : q = g := by
      have : q ∈ [g] := hq
      exact List.mem_singleton.1 this
    subst hq'
    rcases hat with h | h
    · left
      show q ∈ sv.ownBlock.toList
      rw [h]; simp
    · right
      rw [h]; exact Nat.le_refl _)
/-- 'append' onto a row of one's own, by what a call owns. -/
theorem wpList_append_st {P : Program} {ops : Array Oper} {rest : List Oper} {d s x : Tmp} {t t' : TypeId} {pos : String} {after : Array Edge} {a : Act} {w w0 : World} {Q : Exit → Act → World → Prop} {e : TypeId} {size bytes n m c B : Nat} {v : Value} {from_ : Addr} {A : List It} (xs news : List Value)
    (E : ElemOk P t e size bytes) (H : St B w0 w (ownI e size v n xs :: A)) (hs : a.eval (.tmp s) = v) (hx : a.eval (.tmp x) = .slice (some from_) m c) (hr : ∀ j u, news[j]? = some u → w.cell? (from_.add j) = some u) (hl : news.length = m * size) (h1 : ∀ u ∈ news, u.oneCell' = true)
    (hm : 0 < m) (h63 : n + m ≤ maxLen) (hbytes : (n + m) * bytes ≤ 140737488355328)
    (h : ∀ g cap W, St B w0 W (ownI e size (.slice (some ⟨g, 0, none⟩) (n + m) cap) (n + m) (xs ++ news) :: A) → wpList P ops Q rest (a.put (some d) (.slice (some ⟨g, 0, none⟩) (n + m) cap)) W) :
    wpList P ops Q (⟨some d, .call { callee := .builtin .append, args := #[.tmp s, .tmp x], argTypes := #[t, t] }, t', pos, after, none⟩ :: rest) a w := by
  obtain ⟨ht, i, z, hi, hz, hsz, hby, hzs, hpos⟩ := E
  refine wpList_append_lies w rfl (.tmp s) (.tmp x) t rfl 0 e i z size bytes ht hi hz hsz hby hzs hpos v n xs hs H.head from_ m c news hx hl hr h1 hm h63 hbytes (Nat.zero_le _) _ rfl ?_
  intro g cap W h2 h3 h4 _
  exact h g cap W (H.grown h2 h3 h4)
theorem St.app {B : Nat} {w0 w W : World} {A A' : List It} (h : St B w0 w A) (k : St w.heap.size w W A') : St B w0 W (A' ++ A) := by
  have hle := h.le
  refine ⟨h.below.trans (k.below.mono hle), h.base, fun x hx => ?_, fun x hx g hg => ?_, List.pairwise_append.2 ⟨k.apart, h.apart, fun x hx y hy g hgx hgy => ?_⟩⟩
  · rcases List.mem_append.1 hx with hx | hx
    · exact k.own x hx
    · exact x.loc w W (fun g hg => k.below.block g (x.lt w (h.own x hx) g hg)) k.below.size (h.own x hx)
  · rcases List.mem_append.1 hx with hx | hx
    · have := k.low x hx g hg; omega
    · exact h.low x hx g hg
  · have h1 := k.low x hx g hgx
    have h2 := y.lt w (h.own y hy) g hgy
    omega
/-- A row of one's own, of cells. -/
theorem own_at {w : World} {t size n g cap : Nat} {xs : List Value} (h : w.ownsRow 0 t size (.slice (some ⟨g, 0, none⟩) n cap) n xs) (j : Nat) (v : Value) (hj : xs[j]? = some v) : w.cell? ⟨g, j, none⟩ = some v := by
  obtain ⟨hl, h' | ⟨g', cap', cur, e1, _, hh, _, _, _, ht⟩⟩ := h
  · cases h'.1
  · injection e1 with e1 _ _
    injection e1 with e1
    injection e1 with e1
    subst e1
    have hc : w.cell? ⟨g, j, none⟩ = cur[j]? := by unfold World.cell?; simp [hh]
    rw [hc]
    rw [← ht] at hj
    have hlt := (List.getElem?_eq_some_iff.1 hj).1
    rw [List.length_take] at hlt
    rw [List.getElem?_take_of_lt (by omega)] at hj
    simpa using hj
theorem own_lt' {w : World} {t size n g cap : Nat} {xs : List Value} (h : w.ownsRow 0 t size (.slice (some ⟨g, 0, none⟩) n cap) n xs) : g < w.heap.size := (h.lt g (by simp [Value.ownBlock])).2
/-- The cells of ints. -/
def intC (l : List Int) : List Value := l.map (Value.int .i64)
theorem intC_len (l : List Int) : (intC l).length = l.length := by simp [intC]
theorem intC_one (l : List Int) : ∀ v ∈ intC l, v.oneCell' = true := fun v hv => by
  obtain ⟨x, _, rfl⟩ := List.mem_map.1 hv; rfl
theorem intC_app (l m : List Int) : intC (l ++ m) = intC l ++ intC m := by simp [intC]
/-- A whole store, as an operation. -/
theorem oper_store_blk {P : Program} {ty : TypeId} {p q : Tmp} {t' : TypeId} {pos : String} {after : Array Edge} {a : Act} {w : World} {K : Act → World → Prop} {Q : Exit → Act → World → Prop} {b o : Nat} {t : TypeId} (L cs : List Value)
    (hx : a.eval (.tmp p) = .pointer (some ⟨b, o, none⟩)) (hy : (a.eval (.tmp q)).cells = cs.toArray) (hB : Blk w b t L) (ho : o + cs.length ≤ L.length) (hi : (P.info? ty).map (·.size) = some cs.length) (h1 : ∀ v ∈ cs, v.oneCell' = true)
    (h : ∀ W, Blk W b t (L.take o ++ (cs ++ L.drop (o + cs.length))) → Only b w W → K a W) :
    Oper.wp P ⟨none, .store ty (.tmp p) (.tmp q), t', pos, after, none⟩ a w K Q := by
  have H := h _ (hB.set cs o ho) (Only.setCells cs o ⟨rfl, rfl, rfl, rfl, fun _ _ => rfl⟩)
  unfold Oper.wp execOp
  simp only [hx, Instr.storeAt, Instr.sureAddr, Sem.run_bind, Sem.run_pure, Result.andThen_ok, run_storeVar_any w b o ty _ cs hy (hB.box.there o ho) hi h1]
  exact H
end Go.Proofs.YteibhcocldihbaaDoor
namespace Go.Proofs.YteibhcocldihbaaDoor
open Go.RowKit
theorem run_buildSlice1v {P : Program} {t e : TypeId} {size bytes : Nat} (E : ElemOk P t e size bytes) (v : Value) (L : List Value) (hv : v.cells = L.toArray) (hl : L.length = size) (hs : size ≤ 16777216) (w : World) :
    (Instr.buildSlice t 1 #[(0, v)]).run P w = .ok (.slice (some ⟨w.heap.size, 0, none⟩) 1 1) (w.alloc (.cells L.toArray e)) := by
  obtain ⟨ht, i, z, hi, hz, hsz, hby, hzs, hpos⟩ := E
  have hzv : ∀ w, (zeroValue e).run P w = .ok z w := (zero_of_info (n := size) (by rw [hi]; simp [hz, hsz])).1
  have hso : (sizeOf e).run P w = .ok size w := by simp [sizeOf, typeInfo, hi, hsz]
  unfold Instr.buildSlice
  have h1 : ¬ (1 * size > 2 ^ 24) := by omega
  have h2 : ¬ (1 * size = 0) := by omega
  have hfill : Instr.fill (fun i => some (i * size, size)) ((Array.range (1 * size)).map (fun j => z.cells[j % z.cells.size]!)) [(0, v)] = some L.toArray := by
    have hA : ((Array.range (1 * size)).map (fun j => z.cells[j % z.cells.size]!)).size = L.length := by simp [hl]
    generalize (Array.range (1 * size)).map (fun j => z.cells[j % z.cells.size]!) = A at *
    have hc : v.cells = L.toArray := hv
    simp only [Instr.fill, hc]
    have hz0 : 0 * size = 0 := Nat.zero_mul _
    have hcond : (decide (L.toArray.size ≠ size) || decide (0 * size + L.toArray.size > A.size)) = false := by
      rw [hz0]; simp [hl, hA]
    have hif : ∀ (x y : Option (Array Value)), (if (decide (L.toArray.size ≠ size) || decide (0 * size + L.toArray.size > A.size)) = true then x else y) = y := fun x y => by rw [hcond]; rfl
    rw [hif, hz0]
    have := foldl_set L 0 A (by omega)
    rw [← Array.foldl_toList]
    rw [show L.toArray.zipIdx.toList = L.zipIdx 0 by simp]
    rw [this]
    have hd : A.toList.drop (0 + L.length) = [] := List.drop_of_length_le (by simp; omega)
    rw [hd]
    simp
  simp only [Sem.run_bind, run_underlying ht, Result.andThen_ok, hso, if_neg h1, if_neg h2, hzv, Sem.run_pure, hfill]
  rfl
theorem wpList_build1v {P : Program} {ops : Array Oper} {rest : List Oper} {d p : Tmp} {t t' : TypeId} {pos : String} {after : Array Edge} {a : Act} {w : World} {Q : Exit → Act → World → Prop} {e : TypeId} {size bytes : Nat} (L : List Value)
    (E : ElemOk P t e size bytes) (hx : (a.eval (.tmp p)).cells = L.toArray) (hl : L.length = size) (hs : size ≤ 16777216)
    (h : ∀ W, Blk W w.heap.size e L → Below w.heap.size w W → w.heap.size < W.heap.size → wpList P ops Q rest (a.put (some d) (.slice (some ⟨w.heap.size, 0, none⟩) 1 1)) W) :
    wpList P ops Q (⟨some d, .buildSlice t 1 #[(0, .tmp p)], t', pos, after, none⟩ :: rest) a w := by
  refine wpList_plain rfl fun _ hK => ?_
  unfold Oper.wp execOp
  have hr := run_buildSlice1v E _ L hx hl hs w
  simp only [List.map_toArray, List.map_cons, List.map_nil, Sem.run_bind, Sem.run_map, hr]
  exact hK _ _ (h _ (Blk.new w L e) ((Below.refl _ w).alloc (Nat.le_refl _) _) (by simp))
theorem two_blks (w : World) (C D : List Value) (t u : TypeId) : ∀ W, W = (w.alloc (.cells C.toArray t)).alloc (.cells D.toArray u) →
    Blk W w.heap.size t C ∧ Blk W (w.heap.size + 1) u D ∧ Below w.heap.size w W ∧ w.heap.size + 1 < W.heap.size := by
  rintro W rfl
  have hs : (w.alloc (.cells C.toArray t)).heap.size = w.heap.size + 1 := by simp
  refine ⟨(Blk.new w C t).below ((Below.refl _ _).alloc (Nat.le_refl _) _) (by rw [hs]; exact Nat.lt_succ_self _), ?_, ((Below.refl _ w).alloc (Nat.le_refl _) _).alloc (by simp) _, by simp⟩
  rw [← hs]; exact Blk.new _ D u
end Go.Proofs.YteibhcocldihbaaDoor

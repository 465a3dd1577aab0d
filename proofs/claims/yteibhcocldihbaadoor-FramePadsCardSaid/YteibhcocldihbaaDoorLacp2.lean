/- lacp: a side as bytes, Write. -/
import Derived.Test.YteibhcocldihbaaDoorLacp1
import Derived.Test.YteibhcocldihbaaDoorMust
import Derived.Test.YteibhcocldihbaaDoorShelf
import Derived.Test.YteibhcocldihbaaDoorTail1
set_option linter.all false
namespace Go.Proofs.YteibhcocldihbaaDoor
open Go.RowKit
/-- 'string(x[:])' of an address that lies in memory. -/
theorem conv_ad {w : World} {g o : Nat} (x : Ad) (h : w.rangeAt g o x.vals) : (convert 90 9 (.slice (some ⟨g, o, none⟩) 6 6)).run Tryd.prog w = .ok (.string ⟨x.list.toArray⟩) w := by
  have := run_convert_bytes_back (P := Tryd.prog) w 90 9 5 ⟨g, o, none⟩ 6 x.list Tryd.underlying90 Tryd.underlying5 Tryd.underlying9 (fun j hj => by
    rw [Addr.add_lit]
    refine h j _ ?_
    obtain ⟨a, b, c, d, e, f⟩ := x
    match j, hj with
    | 0, _ | 1, _ | 2, _ | 3, _ | 4, _ | 5, _ => rfl)
  exact this
set_option maxRecDepth 100000 in
set_option maxHeartbeats 2000000 in
theorem side_any (kind : Nat) (hk : kind = 1 ∨ kind = 2) (p : Pty) (hp : p.Ok) (w : World) :
    Calls Tryd.prog 105 #[.int .i64 (kind : Int), .agg p.vals.toArray] w fun e w' => e = .returned (.string ⟨(sideB kind p).toArray⟩) ∧ Below w.heap.size w w' := by
  have HB := Lib.hid (Box.new w p.vals 83)
  have hb0 : Below w.heap.size w (w.alloc (.cells p.vals.toArray 83)) := (Below.refl _ _).alloc (Nat.le_refl _) _
  have hl0 : w.heap.size < (w.alloc (.cells p.vals.toArray 83)).heap.size := by simp
  obtain ⟨sp, sys, key, pp, port, st⟩ := p
  obtain ⟨a0, a1, a2, a3, a4, a5, a6, a7, a8, a9⟩ := hp
  simp only [] at a0 a1 a2 a3 a4 a5 a6 a7 a8 a9
  obtain ⟨sp, rfl⟩ := Int.eq_ofNat_of_zero_le a0
  obtain ⟨key, rfl⟩ := Int.eq_ofNat_of_zero_le a2
  obtain ⟨pp, rfl⟩ := Int.eq_ofNat_of_zero_le a4
  obtain ⟨port, rfl⟩ := Int.eq_ofNat_of_zero_le a6
  obtain ⟨st, rfl⟩ := Int.eq_ofNat_of_zero_le a8
  have M0 : ∀ W, Calls Tryd.prog 43 #[.int .i64 (kind : Int), .int .i64 1] W fun e w' => e = .returned (.string ⟨(beBytes kind 1).toArray⟩) ∧ Below W.heap.size W w' := fun W => must_ok kind 1 (by decide) (by decide) (by omega) W
  have M1 : ∀ W, Calls Tryd.prog 43 #[.int .i64 (sp : Int), .int .i64 2] W fun e w' => e = .returned (.string ⟨(beBytes sp 2).toArray⟩) ∧ Below W.heap.size W w' := fun W => must_ok sp 2 (by decide) (by decide) (by omega) W
  have M2 : ∀ W, Calls Tryd.prog 43 #[.int .i64 (key : Int), .int .i64 2] W fun e w' => e = .returned (.string ⟨(beBytes key 2).toArray⟩) ∧ Below W.heap.size W w' := fun W => must_ok key 2 (by decide) (by decide) (by omega) W
  have M3 : ∀ W, Calls Tryd.prog 43 #[.int .i64 (pp : Int), .int .i64 2] W fun e w' => e = .returned (.string ⟨(beBytes pp 2).toArray⟩) ∧ Below W.heap.size W w' := fun W => must_ok pp 2 (by decide) (by decide) (by omega) W
  have M4 : ∀ W, Calls Tryd.prog 43 #[.int .i64 (port : Int), .int .i64 2] W fun e w' => e = .returned (.string ⟨(beBytes port 2).toArray⟩) ∧ Below W.heap.size W w' := fun W => must_ok port 2 (by decide) (by decide) (by omega) W
  have M5 : ∀ W, Calls Tryd.prog 43 #[.int .i64 (st : Int), .int .i64 1] W fun e w' => e = .returned (.string ⟨(beBytes st 1).toArray⟩) ∧ Below W.heap.size W w' := fun W => must_ok st 1 (by decide) (by decide) (by omega) W
  have hR : sideB kind ⟨sp, sys, key, pp, port, st⟩ = beBytes kind 1 ++ [20] ++ beBytes sp 2 ++ sys.list ++ beBytes key 2 ++ beBytes pp 2 ++ beBytes port 2 ++ beBytes st 1 ++ [0, 0, 0] := rfl
  have L0 : (beBytes kind 1).length ≤ 2 := by rw [beBytes_len]; decide
  have L1 : (beBytes sp 2).length ≤ 2 := by rw [beBytes_len]; decide
  have L2 : (beBytes key 2).length ≤ 2 := by rw [beBytes_len]; decide
  have L3 : (beBytes pp 2).length ≤ 2 := by rw [beBytes_len]; decide
  have L4 : (beBytes port 2).length ≤ 2 := by rw [beBytes_len]; decide
  have L5 : (beBytes st 1).length ≤ 2 := by rw [beBytes_len]; decide
  have L6 : sys.list.length ≤ 6 := Nat.le_of_eq (Ad.len _)
  rw [hR]
  clear hR a0 a1 a2 a3 a4 a5 a6 a7 a8 a9
  generalize beBytes kind 1 = B0 at *
  generalize beBytes sp 2 = B1 at *
  generalize beBytes key 2 = B2 at *
  generalize beBytes pp 2 = B3 at *
  generalize beBytes port 2 = B4 at *
  generalize beBytes st 1 = B5 at *
  have HM0 := Lib.hid M0; have HM1 := Lib.hid M1; have HM2 := Lib.hid M2; have HM3 := Lib.hid M3; have HM4 := Lib.hid M4; have HM5 := Lib.hid M5
  clear M0 M1 M2 M3 M4 M5
  go_enter Tryd.func105, Tryd.ntmps105
  go_upto_region 1 with (fail)
  generalize w.alloc (.cells (Pty.vals ⟨sp, sys, key, pp, port, st⟩).toArray 83) = W0 at *
  have c0 : W0.cell? ⟨w.heap.size, 0, none⟩ = some (.int .i64 (sp : Int)) := HB.out.cell 0
  have c7 : W0.cell? ⟨w.heap.size, 7, none⟩ = some (.int .i64 (key : Int)) := HB.out.cell 7
  have c8 : W0.cell? ⟨w.heap.size, 8, none⟩ = some (.int .i64 (pp : Int)) := HB.out.cell 8
  have c9 : W0.cell? ⟨w.heap.size, 9, none⟩ = some (.int .i64 (port : Int)) := HB.out.cell 9
  have c10 : W0.cell? ⟨w.heap.size, 10, none⟩ = some (.int .i64 (st : Int)) := HB.out.cell 10
  have hr : W0.rangeAt w.heap.size 1 sys.vals := fun i v hi => by
    have := HB.out.range (1 + i) v (by
      show (_ :: (sys.vals ++ _))[1 + i]? = some v
      rw [Nat.add_comm, List.getElem?_cons_succ, List.getElem?_append_left (List.getElem?_eq_some_iff.1 hi).1]; exact hi)
    simpa using this
  have k1 : ∀ x : Ext W0, (convert 90 9 (.slice (some ⟨w.heap.size, 1, none⟩) 6 6)).run Tryd.prog x.val = .ok (.string ⟨sys.list.toArray⟩) x.val := fun x => conv_ad sys (rangeAt_below hr x.below hl0)
  clear hr
  generalize hS : sys.list = S at *
  have HS := Lib.hid hS
  clear hS
  refine wp_region_ext (by kernel_rfl) (by kernel_rfl) ?_
  repeat (go_big_quiet_step (first | (with_reducible exact Calls.ext _ (HM0.out _)) | (with_reducible exact Calls.ext _ (HM1.out _)) | (with_reducible exact Calls.ext _ (HM2.out _)) | (with_reducible exact Calls.ext _ (HM3.out _)) | (with_reducible exact Calls.ext _ (HM4.out _)) | (with_reducible exact Calls.ext _ (HM5.out _))))
  refine wpQuiet_nil ?_
  rintro w2 ⟨⟨_, hb2⟩, rfl⟩
  go_wp2_with fail
  go_ret
  refine ⟨?_, hb0.trans (hb2.mono hb0.size)⟩
  rw [HS.out]
  simp [List.append_assoc]
def erV (e : Int) : Value := .iface 32 (.int .i64 e)
def lacOut (l : Lac) : Value := if l.okB = true then .tuple #[.string ⟨l.bytes.toArray⟩, .nilIface] else .tuple #[.string ⟨#[]⟩, erV 1]
theorem rep64 : Lib.repeatL (⟨#[0]⟩ : ByteArray).data.toList 64 = List.replicate 64 (0 : UInt8) := by decide +kernel
theorem repeat64 (w : World) : Calls Tryd.prog 44 #[.string ⟨#[0]⟩, .int .i64 64] w fun e w' => e = .returned (.string ⟨(List.replicate 64 (0 : UInt8)).toArray⟩) ∧ Below w.heap.size w w' := by
  have h := Tryd.strings_Repeat ⟨#[0]⟩ 64 w (by decide) (by decide)
  rw [rep64] at h
  exact h
set_option maxRecDepth 100000 in
set_option maxHeartbeats 2000000 in
theorem lacWrite_any (l : Lac) (w : World) :
    Calls Tryd.prog 41 #[.agg l.vals.toArray] w fun e w' => e = .returned (lacOut l) ∧ Below w.heap.size w w' := by
  have HB := Lib.hid (Box.new w l.vals 85)
  have hb0 : Below w.heap.size w (w.alloc (.cells l.vals.toArray 85)) := (Below.refl _ _).alloc (Nat.le_refl _) _
  have hl0 : w.heap.size < (w.alloc (.cells l.vals.toArray 85)).heap.size := by simp
  unfold lacOut
  cases hk : l.okB
  · have Hk := Lib.hid hk
    clear hk
    go_enter Tryd.func41, Tryd.ntmps41
    go_upto_region 1 with (fail)
    generalize w.alloc (.cells l.vals.toArray 85) = W0 at *
    go_wp2_with (first
      | (with_reducible refine wpList_load_rng (ty := 85) l.vals (by with_unfolding_all rfl) HB.out.range Tryd.underlying85 (by with_unfolding_all rfl) (by with_unfolding_all exact info85) ?_)
      | ((with_reducible refine (lacRight_any l W0).mono ?_)
         rintro e w1 ⟨rfl, hb1⟩
         rw [Hk.out]))
    go_ret2
    exact ⟨rfl, hb0.trans (hb1.mono hb0.size)⟩
  · obtain ⟨ha, hp, d0, d1⟩ := Lac.ok_iff.1 hk
    have Hk := Lib.hid hk
    clear hk
    obtain ⟨ac, pa, dl⟩ := l
    simp only [] at ha hp d0 d1
    obtain ⟨dl, rfl⟩ := Int.eq_ofNat_of_zero_le d0
    have M0 : ∀ W, Calls Tryd.prog 43 #[.int .i64 (dl : Int), .int .i64 2] W fun e w' => e = .returned (.string ⟨(beBytes dl 2).toArray⟩) ∧ Below W.heap.size W w' := fun W => must_ok dl 2 (by decide) (by decide) (by omega) W
    have M1 : ∀ W, Calls Tryd.prog 105 #[.int .i64 1, .agg ac.vals.toArray] W fun e w' => e = .returned (.string ⟨(sideB 1 ac).toArray⟩) ∧ Below W.heap.size W w' := fun W => side_any 1 (.inl rfl) ac ha W
    have M2 : ∀ W, Calls Tryd.prog 105 #[.int .i64 2, .agg pa.vals.toArray] W fun e w' => e = .returned (.string ⟨(sideB 2 pa).toArray⟩) ∧ Below W.heap.size W w' := fun W => side_any 2 (.inr rfl) pa hp W
    have M3 : ∀ W, Calls Tryd.prog 44 #[.string ⟨#[0]⟩, .int .i64 64] W fun e w' => e = .returned (.string ⟨(List.replicate 64 (0 : UInt8)).toArray⟩) ∧ Below W.heap.size W w' := repeat64
    have L0 : (beBytes dl 2).length ≤ 2 := by rw [beBytes_len]; decide
    have L1 : (sideB 1 ac).length ≤ 20 := Nat.le_of_eq (sideB_len _ _)
    have L2 : (sideB 2 pa).length ≤ 20 := Nat.le_of_eq (sideB_len _ _)
    have L3 : (List.replicate 64 (0 : UInt8)).length ≤ 64 := by simp
    have hR : Lac.bytes ⟨ac, pa, dl⟩ = [1, 1] ++ sideB 1 ac ++ sideB 2 pa ++ [3, 16] ++ beBytes dl 2 ++ List.replicate 64 0 := rfl
    rw [hR]
    clear hR d0 d1 ha hp
    generalize beBytes dl 2 = B0 at *
    generalize sideB 1 ac = B1 at *
    generalize sideB 2 pa = B2 at *
    generalize List.replicate 64 (0 : UInt8) = B3 at *
    have HM0 := Lib.hid M0; have HM1 := Lib.hid M1; have HM2 := Lib.hid M2; have HM3 := Lib.hid M3
    clear M0 M1 M2 M3
    go_enter Tryd.func41, Tryd.ntmps41
    go_upto_region 1 with (fail)
    generalize w.alloc (.cells (Lac.vals ⟨ac, pa, dl⟩).toArray 85) = W0 at *
    go_wp2_with (first
      | (with_reducible refine wpList_load_rng (ty := 85) (Lac.vals ⟨ac, pa, dl⟩) (by with_unfolding_all rfl) HB.out.range Tryd.underlying85 (by with_unfolding_all rfl) (by with_unfolding_all exact info85) ?_)
      | ((with_reducible refine (lacRight_any ⟨ac, pa, dl⟩ W0).mono ?_)
         rintro e w1 ⟨rfl, hb1⟩
         rw [Hk.out]))
    have HB1 := Lib.hid (HB.out.below hb1 hl0)
    have hl1 := Nat.lt_of_lt_of_le hl0 hb1.size
    have c22 := (lac_rng HB1.out).2.2
    simp only [] at c22
    refine wp_region_ext (by kernel_rfl) (by kernel_rfl) ?_
    repeat (go_big_quiet_step (fail))
    go_big_quiet_want
    with_reducible refine quiet_load_rng (b := ?b5) (off := ?o5) (ds := ?ds5) ac.vals ?hx5 ?hr5 ?hu5 ?hd5 ?hi5 ?hk5
    case hx5 => rfl
    case hr5 => rintro _ ⟨y, rfl⟩; exact rangeAt_below (lac_rng HB1.out).1 y.below hl1
    case hu5 => exact Tryd.underlying83
    case hd5 => rfl
    case hi5 => exact info83
    go_simp
    go_big_quiet_on
    repeat (go_big_quiet_step (first | (with_reducible exact Calls.ext _ (HM0.out _)) | (with_reducible exact Calls.ext _ (HM1.out _)) | (with_reducible exact Calls.ext _ (HM2.out _)) | (with_reducible exact Calls.ext _ (HM3.out _))))
    go_big_quiet_want
    with_reducible refine quiet_load_rng (b := ?b6) (off := ?o6) (ds := ?ds6) pa.vals ?hx6 ?hr6 ?hu6 ?hd6 ?hi6 ?hk6
    case hx6 => rfl
    case hr6 => rintro _ ⟨y, rfl⟩; exact rangeAt_below (lac_rng HB1.out).2.1 y.below hl1
    case hu6 => exact Tryd.underlying83
    case hd6 => rfl
    case hi6 => exact info83
    go_simp
    go_big_quiet_on
    repeat (go_big_quiet_step (first | (with_reducible exact Calls.ext _ (HM0.out _)) | (with_reducible exact Calls.ext _ (HM1.out _)) | (with_reducible exact Calls.ext _ (HM2.out _)) | (with_reducible exact Calls.ext _ (HM3.out _))))
    refine wpQuiet_nil ?_
    rintro w2 ⟨⟨_, hb2⟩, rfl⟩
    go_wp2_with fail
    go_ret2
    refine ⟨?_, (hb0.trans (hb1.mono hb0.size)).trans (hb2.mono (Nat.le_trans hb0.size hb1.size))⟩
    simp [List.append_assoc]
end Go.Proofs.YteibhcocldihbaaDoor

/- lacp: Mark, WriteMark, ReadMark. -/
import Derived.Test.YteibhcocldihbaaDoorLacp5
namespace Go.Proofs.YteibhcocldihbaaDoor
open Go.RowKit
set_option maxRecDepth 100000 in
set_option maxHeartbeats 1000000 in
theorem mark_any (m : Mk) (w : World) :
    Calls Tryd.prog 15 #[.agg m.vals.toArray] w fun e w' => e = .returned (.bool m.okB) ∧ Below w.heap.size w w' := by
  unfold Mk.okB
  obtain ⟨rp, po, ⟨a, b, c, d, e, f⟩, tx⟩ := m
  simp only [Mk.vals, Ad.vals, List.cons_append, List.nil_append]
  cases hS : [po].all sh with
  | false =>
    have HS := Lib.hid hS
    clear hS
    go_enter Tryd.func15, Tryd.ntmps15
    go_wp2_with (first
      | ((with_reducible refine (short_any [po] _ _ 1 rfl (by decide) _ (one_cell po (by simp))).mono ?_); rintro e w1 ⟨rfl, rfl⟩; rw [HS.out]))
    go_ret
    exact ⟨rfl, by go_grown⟩
  | true =>
    have HS := Lib.hid hS
    clear hS
    by_cases h0 : 0 ≤ tx
    all_goals by_cases h1 : tx < 4294967296
    all_goals first
      | (exfalso; omega)
      | skip
    all_goals
      go_enter Tryd.func15, Tryd.ntmps15
      go_wp2_with (first
        | ((with_reducible refine (short_any [po] _ _ 1 rfl (by decide) _ (one_cell po (by simp))).mono ?_); rintro e w1 ⟨rfl, rfl⟩; rw [HS.out]))
      go_ret
      exact ⟨by simp [h0, h1], by go_grown⟩
theorem rep94 : Lib.repeatL (⟨#[0]⟩ : ByteArray).data.toList 94 = List.replicate 94 (0 : UInt8) := by decide +kernel
theorem repeat94 (w : World) : Calls Tryd.prog 44 #[.string ⟨#[0]⟩, .int .i64 94] w fun e w' => e = .returned (.string ⟨(List.replicate 94 (0 : UInt8)).toArray⟩) ∧ Below w.heap.size w w' := by
  have h := Tryd.strings_Repeat ⟨#[0]⟩ 94 w (by decide) (by decide)
  rw [rep94] at h
  exact h
def mkOut (m : Mk) : Value := if m.okB = true then .tuple #[.string ⟨m.bytes.toArray⟩, .nilIface] else .tuple #[.string ⟨#[]⟩, erV 1]
set_option maxRecDepth 100000 in
set_option maxHeartbeats 2000000 in
theorem mkWrite_any (m : Mk) (w : World) :
    Calls Tryd.prog 14 #[.agg m.vals.toArray] w fun e w' => e = .returned (mkOut m) ∧ Below w.heap.size w w' := by
  have HB := Lib.hid (Box.new w m.vals 25)
  have hb0 : Below w.heap.size w (w.alloc (.cells m.vals.toArray 25)) := (Below.refl _ _).alloc (Nat.le_refl _) _
  have hl0 : w.heap.size < (w.alloc (.cells m.vals.toArray 25)).heap.size := by simp
  unfold mkOut
  cases hk : m.okB
  · have Hk := Lib.hid hk
    clear hk
    go_enter Tryd.func14, Tryd.ntmps14
    go_upto_region 1 with (fail)
    generalize w.alloc (.cells m.vals.toArray 25) = W0 at *
    go_wp2_with (first
      | (with_reducible refine wpList_load_rng (ty := 25) m.vals (by with_unfolding_all rfl) HB.out.range Tryd.underlying25 (by with_unfolding_all rfl) (by with_unfolding_all exact info25) ?_)
      | ((with_reducible refine (mark_any m W0).mono ?_)
         rintro e w1 ⟨rfl, hb1⟩
         rw [Hk.out]))
    go_ret2
    exact ⟨rfl, hb0.trans (hb1.mono hb0.size)⟩
  · obtain ⟨p0, p1, d0, d1⟩ := Mk.ok_iff.1 hk
    have Hk := Lib.hid hk
    clear hk
    obtain ⟨rp, po, sys, tx⟩ := m
    simp only [] at p0 p1 d0 d1
    obtain ⟨po, rfl⟩ := Int.eq_ofNat_of_zero_le p0
    obtain ⟨tx, rfl⟩ := Int.eq_ofNat_of_zero_le d0
    have M1 : ∀ W, Calls Tryd.prog 43 #[.int .i64 (po : Int), .int .i64 2] W fun e w' => e = .returned (.string ⟨(beBytes po 2).toArray⟩) ∧ Below W.heap.size W w' := fun W => must_ok po 2 (by decide) (by decide) (by omega) W
    have M2 : ∀ W, Calls Tryd.prog 43 #[.int .i64 (tx : Int), .int .i64 4] W fun e w' => e = .returned (.string ⟨(beBytes tx 4).toArray⟩) ∧ Below W.heap.size W w' := fun W => must_ok tx 4 (by decide) (by decide) (by omega) W
    have M3 := repeat94
    have L1 : (beBytes po 2).length ≤ 2 := by rw [beBytes_len]; decide
    have L2 : (beBytes tx 4).length ≤ 4 := by rw [beBytes_len]; decide
    have L3 : (List.replicate 94 (0 : UInt8)).length ≤ 94 := by simp
    have L6 : sys.list.length ≤ 6 := Nat.le_of_eq (Ad.len _)
    have HK1 : Hid (∀ X : World, X.rangeAt w.heap.size 2 sys.vals → (convert 90 9 (.slice (some ⟨w.heap.size, 2, none⟩) 6 6)).run Tryd.prog X = .ok (.string ⟨sys.list.toArray⟩) X) := Lib.hid (fun X h => conv_ad sys h)
    clear p0 p1 d0 d1
    cases rp
    all_goals
      first
        | (have M0 : ∀ W, Calls Tryd.prog 43 #[.int .i64 1, .int .i64 1] W fun e w' => e = .returned (.string ⟨(beBytes (Mk.kind ⟨false, po, sys, tx⟩) 1).toArray⟩) ∧ Below W.heap.size W w' := fun W => must_ok 1 1 (by decide) (by decide) (by decide) W
           have hR : Mk.bytes ⟨false, po, sys, tx⟩ = [2, 1] ++ beBytes (Mk.kind ⟨false, po, sys, tx⟩) 1 ++ [16] ++ beBytes po 2 ++ sys.list ++ beBytes tx 4 ++ List.replicate 94 0 := rfl
           rw [hR]
           have L0 : (beBytes (Mk.kind ⟨false, po, sys, tx⟩) 1).length ≤ 2 := by rw [beBytes_len]; decide
           generalize beBytes (Mk.kind ⟨false, po, sys, tx⟩) 1 = B0 at *
           have HM0 := Lib.hid M0)
        | (have M0 : ∀ W, Calls Tryd.prog 43 #[.int .i64 2, .int .i64 1] W fun e w' => e = .returned (.string ⟨(beBytes (Mk.kind ⟨true, po, sys, tx⟩) 1).toArray⟩) ∧ Below W.heap.size W w' := fun W => must_ok 2 1 (by decide) (by decide) (by decide) W
           have hR : Mk.bytes ⟨true, po, sys, tx⟩ = [2, 1] ++ beBytes (Mk.kind ⟨true, po, sys, tx⟩) 1 ++ [16] ++ beBytes po 2 ++ sys.list ++ beBytes tx 4 ++ List.replicate 94 0 := rfl
           rw [hR]
           have L0 : (beBytes (Mk.kind ⟨true, po, sys, tx⟩) 1).length ≤ 2 := by rw [beBytes_len]; decide
           generalize beBytes (Mk.kind ⟨true, po, sys, tx⟩) 1 = B0 at *
           have HM0 := Lib.hid M0)
      clear hR M0
      generalize beBytes po 2 = B1 at *
      generalize beBytes tx 4 = B2 at *
      generalize List.replicate 94 (0 : UInt8) = B3 at *
      generalize sys.list = S at *
      have HM1 := Lib.hid M1; have HM2 := Lib.hid M2; have HM3 := Lib.hid M3
      clear M1 M2 M3
      go_enter Tryd.func14, Tryd.ntmps14
      go_upto_region 1 with (fail)
      generalize World.alloc _ _ = W0 at *
      go_upto_region 3 with (first
        | (with_reducible refine wpList_load_rng (ty := 25) (Mk.vals _) (by with_unfolding_all rfl) HB.out.range Tryd.underlying25 (by with_unfolding_all rfl) (by with_unfolding_all exact info25) ?_)
        | ((with_reducible refine (mark_any _ W0).mono ?_)
           rintro e w1 ⟨rfl, hb1⟩
           rw [Hk.out]))
      have HB1 := Lib.hid (HB.out.below hb1 hl0)
      have hl1 := Nat.lt_of_lt_of_le hl0 hb1.size
      have c0 := HB1.out.cell 0
      have c1 : w1.cell? ⟨w.heap.size, 1, none⟩ = some (.int .i64 (po : Int)) := HB1.out.cell 1
      have c8 : w1.cell? ⟨w.heap.size, 8, none⟩ = some (.int .i64 (tx : Int)) := HB1.out.cell 8
      have hr : w1.rangeAt w.heap.size 2 sys.vals := fun i v hi => by
        have := HB1.out.range (2 + i) v (by
          show (_ :: _ :: (sys.vals ++ _))[2 + i]? = some v
          rw [Nat.add_comm, List.getElem?_cons_succ, List.getElem?_cons_succ, List.getElem?_append_left (List.getElem?_eq_some_iff.1 hi).1]; exact hi)
        simpa using this
      simp only [Mk.vals, List.getElem?_toArray, List.getElem?_cons_zero] at c0
      have k1 : ∀ x : Ext w1, (convert 90 9 (.slice (some ⟨w.heap.size, 2, none⟩) 6 6)).run Tryd.prog x.val = .ok (.string ⟨S.toArray⟩) x.val := fun x => HK1.out _ (rangeAt_below hr x.below hl1)
      clear hr
      go_wp2_with fail
      refine wp_region_ext (by kernel_rfl) (by kernel_rfl) ?_
      repeat (go_big_quiet_step (first | (with_reducible exact Calls.ext _ (HM0.out _)) | (with_reducible exact Calls.ext _ (HM1.out _)) | (with_reducible exact Calls.ext _ (HM2.out _)) | (with_reducible exact Calls.ext _ (HM3.out _))))
      refine wpQuiet_nil ?_
      rintro w2 ⟨⟨_, hb2⟩, rfl⟩
      go_wp2_with fail
      go_ret2
      refine ⟨?_, (hb0.trans (hb1.mono hb0.size)).trans (hb2.mono (Nat.le_trans hb0.size hb1.size))⟩
      simp [List.append_assoc]
end Go.Proofs.YteibhcocldihbaaDoor

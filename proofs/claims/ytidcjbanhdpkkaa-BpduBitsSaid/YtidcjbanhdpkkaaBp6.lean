/- bpdu.Write. -/
import Derived.Test.YtidcjbanhdpkkaaBp5
namespace Go.Proofs.Ytidcjbanhdpkkaa
open Go.RowKit
theorem bpWrite_no (b : Bp) (hb : b.okB = false) (w : World) :
    Calls Try.prog 43 #[.agg b.vals.toArray] w fun e w' => e = .returned (.tuple #[.string ⟨#[]⟩, .iface 73 (.int .i64 1)]) ∧ Below w.heap.size w w' := by
  have HK := Lib.hid hb
  clear hb
  have HB := Lib.hid (Box.new w b.vals 94)
  have hb0 : Below w.heap.size w (w.alloc (.cells b.vals.toArray 94)) := (Below.refl _ _).alloc (Nat.le_refl _) _
  go_enter Try.func43, Try.ntmps43
  go_upto_region 1 with (fail)
  generalize World.alloc _ _ = W0 at *
  go_wp2_with (first
    | (with_reducible refine wpList_load_rng (ty := 94) b.vals (by with_unfolding_all rfl) HB.out.range Try.underlying94 (by with_unfolding_all rfl) (by with_unfolding_all exact info94) ?_)
    | ((with_reducible refine (bpRight_any b W0).mono ?_)
       rintro e w1 ⟨rfl, hb1⟩
       rw [HK.out]))
  go_ret2
  exact ⟨rfl, hb0.trans (hb1.mono hb0.size)⟩
set_option maxRecDepth 100000 in
set_option maxHeartbeats 2000000 in
theorem bpWrite_ok (b : Bp) (hb : b.okB = true) (w : World) :
    Calls Try.prog 43 #[.agg b.vals.toArray] w fun e w' => e = .returned (.tuple #[.string ⟨b.bytes.toArray⟩, .nilIface]) ∧ Below w.heap.size w w' := by
  have H0 := Lib.hid ((St.init w).alloc b.vals 94)
  have HK := Lib.hid hb
  have hcase : b.kind = 2 ∨ ((b.kind = 1 ∨ b.kind = 3) ∧ b.fl.okB = true ∧ b.Rest) := by
    unfold Bp.okB at hb
    split at hb
    · rename_i h; exact .inl h
    · split at hb
      · rename_i h
        simp only [Bool.and_eq_true, decide_eq_true_eq] at hb
        exact .inr ⟨.inl h, by rw [hb.1]; exact Fl.two_ok _, Bp.rest_iff.1 hb.2⟩
      · split at hb
        · rename_i h
          simp only [Bool.and_eq_true] at hb
          exact .inr ⟨.inr h, hb.1, Bp.rest_iff.1 hb.2⟩
        · cases hb
  clear hb
  rcases hcase with h2 | ⟨hk, hf, hr⟩
  · have e2 : (b.kind == 2) = true := by simp [h2]
    have HH := Lib.hid (headF_any b.kind (.inr (.inl h2)))
    have HB : Hid (b.bytes = headB b.kind) := Lib.hid (by unfold Bp.bytes; rw [if_pos h2, h2])
    clear h2
    go_enter Try.func43, Try.ntmps43
    go_upto_region 1 with (fail)
    generalize World.alloc _ _ = W0 at *
    go_wp2_with (first
      | (with_reducible refine wpList_load_rng (ty := 94) b.vals (by with_unfolding_all rfl) (Blk.box (H0.out.at 0 rfl)).range Try.underlying94 (by with_unfolding_all rfl) (by with_unfolding_all exact info94) ?_)
      | ((with_reducible refine (bpRight_any b W0).mono ?_)
         rintro e w1 ⟨rfl, hb1⟩
         rw [HK.out]
         have H1 := Lib.hid (H0.out.ext hb1)
         have c1 := (bp_in (Blk.box (H1.out.at 0 rfl))).kind
         clear hb1)
      | ((with_reducible refine (HH.out _).mono ?_)
         rintro e w2 ⟨rfl, rfl⟩
         skip))
    go_ret2
    exact ⟨by rw [HB.out]; rfl, H1.out.below⟩
  · have HF := Lib.hid (bodyF_ok b hr hf)
    have LB : b.body.length ≤ 31 := Nat.le_of_eq (Bp.body_len b)
    have LH : (headB b.kind).length ≤ 4 := Nat.le_of_eq (headB_len _)
    have HH := Lib.hid (headF_any b.kind (by rcases hk with h | h <;> simp [h]))
    have e2 : (b.kind == 2) = false := by rcases hk with h | h <;> simp [h]
    rcases hk with hk | hk
    · have e1 : (b.kind == 1) = true := by simp [hk]
      have HB : Hid (b.bytes = headB b.kind ++ b.body) := Lib.hid (by unfold Bp.bytes; rw [if_neg (by omega), if_pos hk, hk])
      clear hk hf hr
      generalize b.body = BB at *
      generalize headB b.kind = HD at *
      go_enter Try.func43, Try.ntmps43
      go_upto_region 1 with (fail)
      generalize World.alloc _ _ = W0 at *
      go_upto_region 7 with (first
        | (with_reducible refine wpList_load_rng (ty := 94) b.vals (by with_unfolding_all rfl) (Blk.box (H0.out.at 0 rfl)).range Try.underlying94 (by with_unfolding_all rfl) (by with_unfolding_all exact info94) ?_)
        | ((with_reducible refine (bpRight_any b W0).mono ?_)
           rintro e w1 ⟨rfl, hb1⟩
           rw [HK.out]
           have H1 := Lib.hid (H0.out.ext hb1)
           have c1 := (bp_in (Blk.box (H1.out.at 0 rfl))).kind
           clear hb1))
      have l1 : w.heap.size < w1.heap.size := (H1.out.at 0 rfl).lt
      have R1 := Lib.hid (Blk.box (H1.out.at 0 rfl)).range
      refine wp_region_ext (by kernel_rfl) (by kernel_rfl) ?_
      repeat (go_big_quiet_step (first | (with_reducible exact Calls.ext_same _ (HH.out _))))
      go_big_quiet_want
      with_reducible refine quiet_load_rng (b := ?b8) (off := ?o8) (ds := ?ds8) b.vals ?hx8 ?hr8 ?hu8 ?hd8 ?hi8 ?hk8
      case hx8 => rfl
      case hr8 => rintro _ ⟨y, rfl⟩; exact rangeAt_below R1.out y.below l1
      case hu8 => exact Try.underlying94
      case hd8 => rfl
      case hi8 => exact info94
      go_simp
      go_big_quiet_on
      repeat (go_big_quiet_step (first | (with_reducible exact Calls.ext_same _ (HH.out _)) | (with_reducible exact Calls.ext _ (HF.out _))))
      refine wpQuiet_nil ?_
      rintro w4 ⟨⟨_, hb4⟩, rfl⟩
      go_wp2_with fail
      go_ret2
      exact ⟨by rw [HB.out]; rfl, (H1.out.ext hb4).below⟩
    · have e1 : (b.kind == 1) = false := by simp [hk]
      have HB : Hid (b.bytes = headB b.kind ++ b.body ++ [0]) := Lib.hid (by unfold Bp.bytes; rw [if_neg (by omega), if_neg (by omega), hk])
      clear hk hf hr
      generalize b.body = BB at *
      generalize headB b.kind = HD at *
      go_enter Try.func43, Try.ntmps43
      go_upto_region 1 with (fail)
      generalize World.alloc _ _ = W0 at *
      go_upto_region 8 with (first
        | (with_reducible refine wpList_load_rng (ty := 94) b.vals (by with_unfolding_all rfl) (Blk.box (H0.out.at 0 rfl)).range Try.underlying94 (by with_unfolding_all rfl) (by with_unfolding_all exact info94) ?_)
        | ((with_reducible refine (bpRight_any b W0).mono ?_)
           rintro e w1 ⟨rfl, hb1⟩
           rw [HK.out]
           have H1 := Lib.hid (H0.out.ext hb1)
           have c1 := (bp_in (Blk.box (H1.out.at 0 rfl))).kind
           clear hb1))
      have l1 : w.heap.size < w1.heap.size := (H1.out.at 0 rfl).lt
      have R1 := Lib.hid (Blk.box (H1.out.at 0 rfl)).range
      refine wp_region_ext (by kernel_rfl) (by kernel_rfl) ?_
      repeat (go_big_quiet_step (first | (with_reducible exact Calls.ext_same _ (HH.out _))))
      go_big_quiet_want
      with_reducible refine quiet_load_rng (b := ?b11) (off := ?o11) (ds := ?ds11) b.vals ?hx11 ?hr11 ?hu11 ?hd11 ?hi11 ?hk11
      case hx11 => rfl
      case hr11 => rintro _ ⟨y, rfl⟩; exact rangeAt_below R1.out y.below l1
      case hu11 => exact Try.underlying94
      case hd11 => rfl
      case hi11 => exact info94
      go_simp
      go_big_quiet_on
      repeat (go_big_quiet_step (first | (with_reducible exact Calls.ext_same _ (HH.out _)) | (with_reducible exact Calls.ext _ (HF.out _))))
      refine wpQuiet_nil ?_
      rintro w4 ⟨⟨_, hb4⟩, rfl⟩
      go_wp2_with fail
      go_ret2
      exact ⟨by rw [HB.out]; simp, (H1.out.ext hb4).below⟩
end Go.Proofs.Ytidcjbanhdpkkaa

/- mac: Less; addressed(). -/
import Derived.Test.YtkicbabfgahmkaaDoorMac3
import Derived.Test.YtkicbabfgahmkaaDoorPrio7
import Derived.Test.YtkicbabfgahmkaaDoorAd
set_option linter.all false
namespace Go.Proofs.YtkicbabfgahmkaaDoor
open Go.RowKit
set_option maxRecDepth 100000 in
set_option maxHeartbeats 1000000 in
theorem mless_any (a b : Ad) (w : World) :
    Calls Tryd.prog 21 #[.agg a.vals.toArray, .agg b.vals.toArray] w fun e w' => e = .returned (.bool (a.less b)) ∧ Below w.heap.size w w' := by
  obtain ⟨a0, a1, a2, a3, a4, a5⟩ := a
  obtain ⟨b0, b1, b2, b3, b4, b5⟩ := b
  simp only [Ad.vals]
  go_enter Tryd.func21, Tryd.ntmps21
  go_wp2_with fail
  obtain ⟨hA, hB, _, _, lA, lB, hb⟩ := two_boxes w _ _ _ _ _ rfl
  generalize (w.alloc _).alloc _ = W at *
  have k1 : ∀ x : Ext W, (convert 83 9 (.slice (some ⟨w.heap.size, 0, none⟩) 6 6)).run Tryd.prog x.val = .ok (.string ⟨#[a0, a1, a2, a3, a4, a5]⟩) x.val :=
    fun x => addr_text' a0 a1 a2 a3 a4 a5 _ 0 x.val (by rw [x.cell _ _ lA, hA]; rfl) (by rw [x.cell _ _ lA, hA]; rfl) (by rw [x.cell _ _ lA, hA]; rfl) (by rw [x.cell _ _ lA, hA]; rfl) (by rw [x.cell _ _ lA, hA]; rfl) (by rw [x.cell _ _ lA, hA]; rfl)
  have k2 : ∀ x : Ext W, (convert 83 9 (.slice (some ⟨w.heap.size + 1, 0, none⟩) 6 6)).run Tryd.prog x.val = .ok (.string ⟨#[b0, b1, b2, b3, b4, b5]⟩) x.val :=
    fun x => addr_text' b0 b1 b2 b3 b4 b5 _ 0 x.val (by rw [x.cell _ _ lB, hB]; rfl) (by rw [x.cell _ _ lB, hB]; rfl) (by rw [x.cell _ _ lB, hB]; rfl) (by rw [x.cell _ _ lB, hB]; rfl) (by rw [x.cell _ _ lB, hB]; rfl) (by rw [x.cell _ _ lB, hB]; rfl)
  refine wp_region_ext (by kernel_rfl) (by kernel_rfl) ?_
  repeat (go_big_quiet_step (fail))
  refine wpQuiet_nil ?_
  rintro w' ⟨⟨_, hb1⟩, rfl⟩
  clear k1 k2 hA hB
  try simp only [] at *
  go_wp2_with fail
  go_ret
  exact ⟨rfl, hb.trans (hb1.mono hb.size)⟩
def t14 : List UInt8 := [48, 49, 58, 56, 48, 58, 99, 50, 58, 48, 48, 58, 48, 48, 58, 48, 101]
theorem parse14 : Ad.ofText t14 = some (known 14) := by decide +kernel
theorem text14 : (known 14).text = t14 := by decide +kernel
theorem res14 : resM (known 14) = 14 := by decide +kernel
@[reducible] def zAd : List Value := [.int .u8 0, .int .u8 0, .int .u8 0, .int .u8 0, .int .u8 0, .int .u8 0]
set_option maxRecDepth 100000 in
set_option maxHeartbeats 1000000 in
theorem addressed_any (w : World) (hm : MaxL w) :
    Calls Tryd.prog 14 #[] w fun e w' => e = .returned (.bool true) ∧ Below w.heap.size w w' := by
  have hP := mparse_any t14 (by decide) w hm
  rw [parse14] at hP
  have HP := Lib.hid hP
  have HK := Lib.hid (known_any 14 (by decide))
  have hT := mtext_any (known 14)
  rw [text14] at hT
  have HT : Hid (∀ W, Calls Tryd.prog 16 #[.agg (known 14).vals.toArray] W fun e w' => e = .returned (.string ⟨#[48, 49, 58, 56, 48, 58, 99, 50, 58, 48, 48, 58, 48, 48, 58, 48, 101]⟩) ∧ Below W.heap.size W w') := Lib.hid hT
  have hR := reserved_any (known 14)
  rw [res14] at hR
  have HR := Lib.hid hR
  have HG := Lib.hid (group_known 14)
  have HN : ∀ W, (binOp .eql 23 (.agg (known 14).vals.toArray) (.agg (known 14).vals.toArray)).run Tryd.prog W = .ok (.bool true) W := fun W => by rw [ad_eq]; simp
  have HE := fun p q W => ad_guard .eql (known 14) (known 14) p q W
  clear hP hT hR hm
  generalize known 14 = K at *
  have HP : Hid (Calls Tryd.prog 15 #[.string ⟨#[48, 49, 58, 56, 48, 58, 99, 50, 58, 48, 48, 58, 48, 48, 58, 48, 101]⟩] w fun e w' => e = .returned (.tuple #[.agg K.vals.toArray, .nilIface]) ∧ Below w.heap.size w w') := HP
  go_enter Tryd.func14, Tryd.ntmps14
  go_upto_region 2 with (first
    | ((with_reducible refine HP.out.mono ?_)
       rintro e w1 ⟨rfl, hb1⟩
       have H1 := Lib.hid ((St.init w).ext hb1)
       clear hb1)
    | (with_reducible refine wpList_store_blk (ty := 23) (o := 0) _ K.vals (by with_unfolding_all rfl) (by with_unfolding_all rfl) (Blk.new w1 zAd 23) (by with_unfolding_all exact Nat.le_refl _) (by with_unfolding_all exact info23) (Ad.one _) (fun W2 hBW2 hoW2 => ?_)))
  have H2 : Hid (St w.heap.size w W2 (bk w1.heap.size 23 K.vals :: [])) := Lib.hid ((H1.out.alloc zAd 23).sets (L' := K.vals) hBW2 hoW2)
  clear hBW2 hoW2
  have RA := Lib.hid (Blk.box (H2.out.at 0 rfl)).range
  have l0 := (H2.out.at 0 rfl).lt
  generalize w1.heap.size = g at *
  refine wp_region_ext (by kernel_rfl) (by kernel_rfl) ?_
  repeat (go_big_quiet_step (fail))
  go_big_quiet_want
  with_reducible refine quiet_load_rng (b := ?b3) (off := ?o3) (ds := ?ds3) K.vals ?hx3 ?hr3 ?hu3 ?hd3 ?hi3 ?hk3
  case hx3 => rfl
  case hr3 => rintro _ ⟨y, rfl⟩; exact rangeAt_below RA.out y.below l0
  case hu3 => exact Tryd.underlying23
  case hd3 => rfl
  case hi3 => exact info23
  go_simp
  go_big_quiet_on
  repeat (go_big_quiet_step ((go_at_call 18; exact Calls.ext _ (HK.out _))))
  go_big_quiet_want
  with_reducible refine quiet_load_rng (b := ?b4) (off := ?o4) (ds := ?ds4) K.vals ?hx4 ?hr4 ?hu4 ?hd4 ?hi4 ?hk4
  case hx4 => rfl
  case hr4 => rintro _ ⟨y, rfl⟩; exact rangeAt_below RA.out y.below l0
  case hu4 => exact Tryd.underlying23
  case hd4 => rfl
  case hi4 => exact info23
  go_simp
  go_big_quiet_on
  repeat (go_big_quiet_step ((go_at_call 16; exact Calls.ext _ (HT.out _))))
  go_big_quiet_want
  with_reducible refine quiet_load_rng (b := ?b5) (off := ?o5) (ds := ?ds5) K.vals ?hx5 ?hr5 ?hu5 ?hd5 ?hi5 ?hk5
  case hx5 => rfl
  case hr5 => rintro _ ⟨y, rfl⟩; exact rangeAt_below RA.out y.below l0
  case hu5 => exact Tryd.underlying23
  case hd5 => rfl
  case hi5 => exact info23
  go_simp
  go_big_quiet_on
  repeat (go_big_quiet_step ((go_at_call 17; exact Calls.ext _ (HR.out _))))
  go_big_quiet_want
  with_reducible refine quiet_load_rng (b := ?b6) (off := ?o6) (ds := ?ds6) K.vals ?hx6 ?hr6 ?hu6 ?hd6 ?hi6 ?hk6
  case hx6 => rfl
  case hr6 => rintro _ ⟨y, rfl⟩; exact rangeAt_below RA.out y.below l0
  case hu6 => exact Tryd.underlying23
  case hd6 => rfl
  case hi6 => exact info23
  go_simp
  go_big_quiet_on
  repeat (go_big_quiet_step ((go_at_call 19; exact Calls.ext _ (HG.out _))))
  refine wpQuiet_nil ?_
  rintro w5 ⟨⟨_, hb5⟩, rfl⟩
  try simp only [] at *
  go_wp2_with fail
  go_ret
  exact ⟨rfl, H2.out.below.trans (hb5.mono H2.out.below.size)⟩
end Go.Proofs.YtkicbabfgahmkaaDoor

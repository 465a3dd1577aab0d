/- TreeRoot: the walk. -/
import Derived.Test.YthpgdipcdllfdaaRooms2
namespace Go.Proofs.Ythpgdipcdllfdaa
open Go.RowKit
set_option maxRecDepth 100000 in
theorem always_any (i k : Int) (w : World) : Calls Try.prog 24 #[.int .i64 i, .int .i64 k] w fun e w' => e = .returned (.bool true) ∧ Below w.heap.size w w' := by
  go_enter Try.func24, Try.ntmps24
  go_wp2_with fail
  go_ret
  exact ⟨rfl, Below.refl _ _⟩
set_option maxRecDepth 100000 in
set_option maxHeartbeats 1000000 in
theorem less_any (a b : Br) (w : World) :
    Calls Try.prog 27 #[.agg a.vals.toArray, .agg b.vals.toArray] w fun e w' => e = .returned (.bool (lessB a b)) ∧ Below w.heap.size w w' := by
  have ho : lessB a b = decide (lexI a.key b.key < 0) := rfl
  have Ho := Lib.hid ho
  clear ho
  go_enter Try.func27, Try.ntmps27
  go_upto_region 1 with (fail)
  obtain ⟨b0, b1, hb, hl⟩ := two_blks w a.vals b.vals 29 29 _ rfl
  generalize (w.alloc (.cells a.vals.toArray 29)).alloc (.cells b.vals.toArray 29) = W at *
  have H0 := Lib.hid b0
  have H1 := Lib.hid b1
  clear b0 b1
  go_wp2_with (first
    | ((with_reducible refine wpList_load_box (ty := 29) (b := ?b1) (ds := ?ds1) a.vals ?hx1 ?hB1 ?hu1 ?hd1 ?hi1 ?hk1)
       case hx1 => rfl
       case hB1 => exact H0.out.box
       case hu1 => exact Try.underlying29
       case hd1 => rfl
       case hi1 => exact info29)
    | ((with_reducible refine wpList_load_box (ty := 29) (b := ?b2) (ds := ?ds2) b.vals ?hx2 ?hB2 ?hu2 ?hd2 ?hi2 ?hk2)
       case hx2 => rfl
       case hB2 => exact H1.out.box
       case hu2 => exact Try.underlying29
       case hd2 => rfl
       case hi2 => exact info29)
    | ((with_reducible refine (order_any a b _).mono ?_)
       rintro e w1 ⟨rfl, hb1⟩))
  go_ret
  rw [Ho.out]
  exact ⟨rfl, hb.trans (hb1.mono hb.size)⟩
end Go.Proofs.Ythpgdipcdllfdaa

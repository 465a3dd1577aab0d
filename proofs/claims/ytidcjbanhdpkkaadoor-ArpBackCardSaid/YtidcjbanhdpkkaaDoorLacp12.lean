/- LacpBack. -/
import Derived.Test.YtidcjbanhdpkkaaDoorLacp9
import Derived.Test.YtidcjbanhdpkkaaDoorTell2
import Derived.Test.YtidcjbanhdpkkaaDoorErrVar
namespace Go.Proofs.YtidcjbanhdpkkaaDoor
open Go.RowKit
theorem ErrVar.ext {w W : World} (h : ErrVar w) (hb : Below w.heap.size w W) : ErrVar W := by
  have hl := World.block_lt_of_cell? w _ h
  unfold ErrVar at *
  rw [hb.cell hl]; exact h
set_option maxRecDepth 100000 in
set_option maxHeartbeats 2000000 in
theorem law_LacpBack (v : Value) (l : Lac) (w : World) (hv : v = .agg l.vals.toArray) (hE : ErrVar w) :
    Calls Tryd.prog 8 #[v] w fun e w' => e = .returned (.bool true) ∧ Below w.heap.size w w' := by
  subst hv
  have H0 := Lib.hid ((St.init w).alloc l.vals 69)
  have HE := Lib.hid hE
  clear hE
  cases hk : l.okB
  · have HW := Lib.hid (lacWrite_no l hk)
    have HK := Lib.hid hk
    clear hk
    unfold erV at HW
    go_enter Tryd.func8, Tryd.ntmps8
    go_upto_region 1 with (fail)
    generalize World.alloc _ _ = w0 at *
    go_wp2_with (first
      | ((with_reducible refine (linked_any _).mono ?_)
         rintro e w1 ⟨rfl, hb1⟩
         have H1 := Lib.hid (H0.out.ext hb1)
         clear hb1)
      | (with_reducible refine wpList_load_rng (ty := 69) l.vals (by with_unfolding_all rfl) (Blk.box (H2.out.at 0 rfl)).range Tryd.underlying69 (by with_unfolding_all rfl) (by with_unfolding_all exact info69) ?_)
      | (with_reducible refine wpList_load_rng (ty := 69) l.vals (by with_unfolding_all rfl) (Blk.box (H1.out.at 0 rfl)).range Tryd.underlying69 (by with_unfolding_all rfl) (by with_unfolding_all exact info69) ?_)
      | ((with_reducible refine (HW.out _).mono ?_)
         rintro e w2 ⟨rfl, hb2⟩
         have H2 := Lib.hid (H1.out.ext hb2)
         clear hb2)
      | ((with_reducible refine (lacRight_any l _).mono ?_)
         rintro e w3 ⟨rfl, hb3⟩
         rw [HK.out]
         have H3 := Lib.hid (H2.out.ext hb3)
         clear hb3)
      | ((with_reducible refine (tell_errno 1 _ (HE.out.ext H3.out.below)).mono ?_)
         rintro e w4 ⟨rfl, hb4⟩
         have H4 := Lib.hid (H3.out.ext hb4)
         clear hb4))
    go_ret
    exact ⟨rfl, H4.out.below⟩
  · have HW := Lib.hid (lacWrite_ok l hk)
    have HR := Lib.hid (lacRead_ok l hk)
    have HK := Lib.hid hk
    have hb1 : ((l.bytes.length : Int) == 110) = true := by rw [Lac.bytes_len]; rfl
    have EL := lac_eq l
    have GL := fun p q => lac_guard l p q
    generalize l.bytes = S at *
    clear hk
    go_enter Tryd.func8, Tryd.ntmps8
    go_upto_region 1 with (fail)
    generalize World.alloc _ _ = w0 at *
    go_upto_region 6 with (first
      | ((with_reducible refine (linked_any _).mono ?_)
         rintro e w1 ⟨rfl, hb1⟩
         have H1 := Lib.hid (H0.out.ext hb1)
         clear hb1)
      | (with_reducible refine wpList_load_rng (ty := 69) l.vals (by with_unfolding_all rfl) (Blk.box (H2.out.at 0 rfl)).range Tryd.underlying69 (by with_unfolding_all rfl) (by with_unfolding_all exact info69) ?_)
      | (with_reducible refine wpList_load_rng (ty := 69) l.vals (by with_unfolding_all rfl) (Blk.box (H1.out.at 0 rfl)).range Tryd.underlying69 (by with_unfolding_all rfl) (by with_unfolding_all exact info69) ?_)
      | ((with_reducible refine (HW.out _).mono ?_)
         rintro e w2 ⟨rfl, hb2⟩
         have H2 := Lib.hid (H1.out.ext hb2)
         clear hb2)
      | ((with_reducible refine (lacRight_any l _).mono ?_)
         rintro e w3 ⟨rfl, hb3⟩
         rw [HK.out]
         have H3 := Lib.hid (H2.out.ext hb3)
         clear hb3))
    go_upto_region 7 with (first
      | ((with_reducible refine (HR.out _).mono ?_)
         rintro e w4 ⟨rfl, hb4⟩
         have H4 := Lib.hid (H3.out.ext hb4)
         clear hb4)
      | (with_reducible refine wpList_store_blk (ty := 69) (o := 0) _ l.vals (by with_unfolding_all rfl) (by with_unfolding_all rfl) (Blk.new w4 zLac 69) (by with_unfolding_all exact Nat.le_refl _) (by with_unfolding_all exact info69) (Lac.one _) (fun W5 hBW5 hoW5 => ?_)))
    have H5 : Hid (St w.heap.size w W5 [bk w4.heap.size 69 l.vals, bk w.heap.size 69 l.vals]) := Lib.hid ((H4.out.alloc zLac 69).sets (L' := l.vals) hBW5 hoW5)
    clear hBW5 hoW5 H4 H3 H2 H1
    generalize w4.heap.size = P at *
    go_wp2_with (first
      | (with_reducible refine wpList_load_rngG (ty := 69) l.vals (by with_unfolding_all rfl) (by with_unfolding_all rfl) (Blk.box (H5.out.at 0 rfl)).range Tryd.underlying69 (by with_unfolding_all rfl) (by with_unfolding_all exact info69) ?_)
      | (with_reducible refine wpList_load_rngG (ty := 69) l.vals (by with_unfolding_all rfl) (by with_unfolding_all rfl) (Blk.box (H5.out.at 1 rfl)).range Tryd.underlying69 (by with_unfolding_all rfl) (by with_unfolding_all exact info69) ?_))
    go_ret
    exact ⟨rfl, H5.out.below⟩
end Go.Proofs.YtidcjbanhdpkkaaDoor

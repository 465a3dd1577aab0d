/- PauseBack. -/
import Derived.Test.YtidcjbanhdpkkaaDoorPa2
import Derived.Test.YtidcjbanhdpkkaaDoorOpenF
import Derived.Test.YtidcjbanhdpkkaaDoorErrVar
import Derived.Test.YtidcjbanhdpkkaaDoorShelf
import Derived.Test.YtidcjbanhdpkkaaDoorTabVar
namespace Go.Proofs.YtidcjbanhdpkkaaDoor
open Go.RowKit
theorem paRead_pad (x : Pa) (pad : List UInt8) (hx : x.okB = true) (hz : ∀ c ∈ pad, c = 0) (hl : pad.length ≤ 1000000) (w : World) :
    Calls Tryd.prog 25 #[.string ⟨(x.bytes ++ pad).toArray⟩] w fun e w' => e = .returned (.tuple #[.agg x.vals.toArray, .nilIface]) ∧ Below w.heap.size w w' := by
  have hlen := Pa.bytes_len x
  refine (paRead_any _ (by rw [List.length_append]; omega) w).mono ?_
  rintro e w1 ⟨b, g, rfl, hS⟩
  obtain ⟨R, hR, _⟩ := readPa_bytes x pad hx hz hl
  exact ⟨by unfold paGot; rw [hR]; rfl, hS.below⟩
theorem paRead_yes (s : List UInt8) (hs : s.length ≤ 4611686018427387904) (h : (readPaM s).2.1 = true) (w : World) :
    Calls Tryd.prog 25 #[.string ⟨s.toArray⟩] w fun e w' => e = .returned (.tuple #[.agg (readPaM s).1.vals.toArray, .nilIface]) ∧ Below w.heap.size w w' := by
  refine (paRead_any s hs w).mono ?_
  rintro e w1 ⟨b, g, rfl, hS⟩
  exact ⟨by unfold paGot; rw [if_pos h], hS.below⟩
theorem readPa_err {s : List UInt8} (h : (readPaM s).2.1 = false) : (readPaM s).2.2.err ≠ none := by
  obtain ⟨R, hR⟩ : ∃ R, (readPaM s).2 = zerosM R := by
    unfold readPaM
    simp only []
    split
    · exact ⟨_, rfl⟩
    · split
      · exact ⟨_, rfl⟩
      · split <;> exact ⟨_, rfl⟩
  intro he
  rw [hR] at h he
  rw [zerosM_err.2 he] at h
  cases h
theorem paRead_not (s : List UInt8) (hs : s.length ≤ 4611686018427387904) (h : (readPaM s).2.1 = false) (w : World) :
    Calls Tryd.prog 25 #[.string ⟨s.toArray⟩] w fun e w' => ∃ g, e = .returned (.tuple #[.agg zPa.vals.toArray, .iface 133 (.pointer (some ⟨g, 0, none⟩))]) ∧ Below w.heap.size w w' := by
  refine (paRead_any s hs w).mono ?_
  rintro e w1 ⟨b, g, rfl, hS⟩
  refine ⟨g, ?_, hS.below⟩
  obtain ⟨x, hx⟩ := Option.ne_none_iff_exists'.1 (readPa_err h)
  unfold paGot
  rw [if_neg (by rw [h]; decide), errV_some hx]
set_option maxRecDepth 100000 in
theorem pa_types : Tryd.prog.cellTypes Tryd.prog.depth 60 = some [4, 3, 3, 3, 3, 3, 3, 3, 3, 3] := by kernel_rfl
theorem pa_struct : ∃ fs, Tryd.prog.underlying 60 = some (.struct fs) := ⟨_, Tryd.underlying60⟩
set_option maxRecDepth 100000 in
theorem open_pa {H : Type} {enc : TypeId × Value → H} {w : World} {r : Reach} {base : Nat} {b0 : Nat} {sp : Nat → Bool} {hd : Bool} {v : Value} {d : DataW H} {ps : List MemPlace}
    (h : Value.okWide Tryd.prog w r base 60 v) (_ : DataW.Trod enc Tryd.prog w b0 sp hd 60 v d ps) : ∃ x : Pa, v = .agg x.vals.toArray := by
  obtain ⟨cs, rfl, hl, hc⟩ := flatV (.inl pa_struct) pa_types (by kernel_rfl) h
  match cs, hl with
  | [z0, z1, z2, z3, z4, z5, z6, z7, z8, z9], _ =>
    obtain ⟨x0, e0, k0⟩ := hc 0 4 rfl
    obtain ⟨x1, e1, k1⟩ := hc 1 3 rfl
    obtain ⟨x2, e2, k2⟩ := hc 2 3 rfl
    obtain ⟨x3, e3, k3⟩ := hc 3 3 rfl
    obtain ⟨x4, e4, k4⟩ := hc 4 3 rfl
    obtain ⟨x5, e5, k5⟩ := hc 5 3 rfl
    obtain ⟨x6, e6, k6⟩ := hc 6 3 rfl
    obtain ⟨x7, e7, k7⟩ := hc 7 3 rfl
    obtain ⟨x8, e8, k8⟩ := hc 8 3 rfl
    obtain ⟨x9, e9, k9⟩ := hc 9 3 rfl
    obtain rfl : z0 = x0 := Option.some.inj e0
    obtain rfl : z1 = x1 := Option.some.inj e1
    obtain rfl : z2 = x2 := Option.some.inj e2
    obtain rfl : z3 = x3 := Option.some.inj e3
    obtain rfl : z4 = x4 := Option.some.inj e4
    obtain rfl : z5 = x5 := Option.some.inj e5
    obtain rfl : z6 = x6 := Option.some.inj e6
    obtain rfl : z7 = x7 := Option.some.inj e7
    obtain rfl : z8 = x8 := Option.some.inj e8
    obtain rfl : z9 = x9 := Option.some.inj e9
    obtain ⟨c0, rfl⟩ := cell_bool Tryd.underlying4 k0
    obtain ⟨c1, rfl, _⟩ := cell_int Tryd.underlying3 k1
    obtain ⟨c2, rfl, _⟩ := cell_int Tryd.underlying3 k2
    obtain ⟨c3, rfl, _⟩ := cell_int Tryd.underlying3 k3
    obtain ⟨c4, rfl, _⟩ := cell_int Tryd.underlying3 k4
    obtain ⟨c5, rfl, _⟩ := cell_int Tryd.underlying3 k5
    obtain ⟨c6, rfl, _⟩ := cell_int Tryd.underlying3 k6
    obtain ⟨c7, rfl, _⟩ := cell_int Tryd.underlying3 k7
    obtain ⟨c8, rfl, _⟩ := cell_int Tryd.underlying3 k8
    obtain ⟨c9, rfl, _⟩ := cell_int Tryd.underlying3 k9
    exact ⟨⟨c0, c1, c2, c3, c4, c5, c6, c7, c8, c9⟩, rfl⟩
theorem trim_zeros (l : List UInt8) (h : ∀ c ∈ l, c = 0) : Lib.trimB l 0 = [] := by
  unfold Lib.trimB Lib.trimLeftB Lib.trimRightB
  have h1 : (l.reverse.dropWhile (· == (0 : UInt8))) = [] := by
    have h' : ∀ c ∈ l.reverse, c = 0 := fun c hc => h c (List.mem_reverse.1 hc)
    generalize l.reverse = m at h'
    induction m with
    | nil => rfl
    | cons a m ih =>
      rw [List.dropWhile_cons_of_pos (by simp [h' a (List.mem_cons_self ..)])]
      exact ih (fun c hc => h' c (List.mem_cons_of_mem _ hc))
  rw [h1]; rfl
theorem prefix_self (a b : List UInt8) : Lib.hasPrefix (a ++ b) a = true := by
  unfold Lib.hasPrefix
  rw [List.isPrefixOf_iff_prefix]; exact List.prefix_append a b
set_option maxRecDepth 100000 in
set_option maxHeartbeats 2000000 in
theorem law_PauseBack (v : Value) (a : Pa) (s : List UInt8) (hs : s.length ≤ 9223372036854775807) (w : World) (hv : v = .agg a.vals.toArray) :
    Calls Tryd.prog 7 #[v, .string ⟨s.toArray⟩] w fun e w' => e = .returned (.bool true) ∧ Below w.heap.size w w' := by
  subst hv

  have H0 := Lib.hid ((St.init w).alloc a.vals 60)
  cases hk : a.okB
  · by_cases hl : 300 < s.length
    · have hlI : (300 : Int) < (s.length : Int) := by omega
      have HK := Lib.hid hk
      clear hk
      go_enter Tryd.func7, Tryd.ntmps7
      go_upto_region 1 with (fail)
      generalize World.alloc _ _ = w0 at *
      go_upto_region 3 with (first
        | ((with_reducible refine (paused_any _).mono ?_)
           rintro e w1 ⟨rfl, hb1⟩
           have H1 := Lib.hid (H0.out.ext hb1)
           clear hb1))
      go_upto_region 8 with (first
        | (with_reducible refine wpList_load_rng (ty := 60) a.vals (by with_unfolding_all rfl) (Blk.box (H1.out.at 0 rfl)).range Tryd.underlying60 (by with_unfolding_all rfl) (by with_unfolding_all exact info60) ?_)
        | ((with_reducible refine (paRight_any a _).mono ?_)
           rintro e w2 ⟨rfl, hb2⟩
           rw [HK.out]
           have H2 := Lib.hid (H1.out.ext hb2)
           clear hb2))
      clear H0 H1
      generalize H2.out.below = HB8
      replace HB8 := Lib.hid HB8
      clear H2 HK
      generalize w2 = W8 at *
      go_wp2_with fail
      go_ret
      exact ⟨rfl, HB8.out⟩
    · have hlI : ¬ (300 : Int) < (s.length : Int) := by omega
      have hs' : s.length ≤ 4611686018427387904 := by omega
      cases hr : (readPaM s).2.1
      · have HN := Lib.hid (paRead_not s hs' hr)
        clear hr
        have HK := Lib.hid hk
        clear hk
        go_enter Tryd.func7, Tryd.ntmps7
        go_upto_region 1 with (fail)
        generalize World.alloc _ _ = w0 at *
        go_upto_region 3 with (first
          | ((with_reducible refine (paused_any _).mono ?_)
             rintro e w1 ⟨rfl, hb1⟩
             have H1 := Lib.hid (H0.out.ext hb1)
             clear hb1))
        go_upto_region 8 with (first
          | (with_reducible refine wpList_load_rng (ty := 60) a.vals (by with_unfolding_all rfl) (Blk.box (H1.out.at 0 rfl)).range Tryd.underlying60 (by with_unfolding_all rfl) (by with_unfolding_all exact info60) ?_)
          | ((with_reducible refine (paRight_any a _).mono ?_)
             rintro e w2 ⟨rfl, hb2⟩
             rw [HK.out]
             have H2 := Lib.hid (H1.out.ext hb2)
             clear hb2))
        clear H0 H1
        generalize H2.out.below = HB8
        replace HB8 := Lib.hid HB8
        clear H2 HK
        generalize w2 = W8 at *
        go_upto_region 10 with (fail)
        go_upto_region 11 with (first
          | ((with_reducible refine (HN.out _).mono ?_)
             rintro e w9 ⟨g9, rfl, hb9⟩
             have HB9 := Lib.hid (HB8.out.trans (hb9.mono HB8.out.size))
             clear hb9)
          | (with_reducible refine wpList_store_blk (ty := 60) (o := 0) _ zPa.vals (by with_unfolding_all rfl) (by with_unfolding_all rfl) (Blk.new w9 zPause 60) (by with_unfolding_all exact Nat.le_refl _) (by with_unfolding_all exact info60) (Pa.one _) (fun W10 hBW10 hoW10 => ?_)))
        have H10 : Hid (St w.heap.size w W10 [bk w9.heap.size 60 zPa.vals]) := Lib.hid ((((St.init w).ext HB9.out).alloc zPause 60).sets (L' := zPa.vals) hBW10 hoW10)
        clear hBW10 hoW10 HB9 HB8
        generalize w9.heap.size = P9 at *
        have EZ := pa_eq zPa
        have GZ := fun p q => pa_guard .eql zPa p q
        have PZ := Lib.hid pa_zero
        generalize zPa = Z at *
        go_wp2_with (first
          | (with_reducible refine wpList_load_rng (ty := 60) Z.vals (by with_unfolding_all rfl) (Blk.box (H10.out.at 0 rfl)).range Tryd.underlying60 (by with_unfolding_all rfl) (by with_unfolding_all exact info60) ?_)
          | (with_reducible refine wpList_buildA (t := 60) [] Z.vals (by with_unfolding_all rfl) PZ.out ?_))
        go_ret
        exact ⟨rfl, H10.out.below⟩
      · have HY := Lib.hid (paRead_yes s hs' hr)
        obtain ⟨hx, pad, hsp, hpad⟩ := readPa_back s hs' hr
        generalize (readPaM s).1 = x at *
        have HXW := Lib.hid (paWrite_ok x hx)
        have HXK := Lib.hid hx
        have hxl := Pa.bytes_len x
        have HXP : Hid (∀ W, Calls Tryd.prog 20 #[.string ⟨s.toArray⟩, .string ⟨x.bytes.toArray⟩] W fun e w' => e = .returned (.bool true) ∧ w' = W) := Lib.hid (fun W => by
          have := Tryd.strings_HasPrefix ⟨s.toArray⟩ ⟨x.bytes.toArray⟩ W
          rw [show Lib.hasPrefix s x.bytes = true by rw [hsp]; exact prefix_self _ _] at this
          exact this)
        have hdp : s.drop x.bytes.length = pad := by
          have h2 := congrArg (List.drop x.bytes.length) hsp
          rw [List.drop_left' rfl] at h2
          exact h2
        have HXT : Hid (∀ W, Calls Tryd.prog 21 #[.string ⟨(s.drop x.bytes.length).toArray⟩, .string ⟨#[0]⟩] W fun e w' => e = .returned (.string ⟨#[]⟩) ∧ Below W.heap.size W w') := Lib.hid (fun W => by
          rw [hdp]
          refine (Tryd.strings_Trim_one ⟨pad.toArray⟩ 0 (by decide) W (by show pad.length ≤ _; have := congrArg List.length hsp; rw [List.length_append] at this; omega)).mono ?_
          rintro e w' ⟨rfl, h | h⟩
          · subst h; exact ⟨by rw [show Lib.trimB pad 0 = [] from trim_zeros pad hpad], Below.refl _ _⟩
          · subst h; exact ⟨by rw [show Lib.trimB pad 0 = [] from trim_zeros pad hpad], (Below.refl _ _).drew⟩)
        have hge : x.bytes.length ≤ s.length := by have := congrArg List.length hsp; rw [List.length_append] at this; omega
        have Hsp := Lib.hid hsp
        clear hr hx hsp hdp
        generalize x.bytes = Sx at *
        have HK := Lib.hid hk
        clear hk
        go_enter Tryd.func7, Tryd.ntmps7
        go_upto_region 1 with (fail)
        generalize World.alloc _ _ = w0 at *
        go_upto_region 3 with (first
          | ((with_reducible refine (paused_any _).mono ?_)
             rintro e w1 ⟨rfl, hb1⟩
             have H1 := Lib.hid (H0.out.ext hb1)
             clear hb1))
        go_upto_region 8 with (first
          | (with_reducible refine wpList_load_rng (ty := 60) a.vals (by with_unfolding_all rfl) (Blk.box (H1.out.at 0 rfl)).range Tryd.underlying60 (by with_unfolding_all rfl) (by with_unfolding_all exact info60) ?_)
          | ((with_reducible refine (paRight_any a _).mono ?_)
             rintro e w2 ⟨rfl, hb2⟩
             rw [HK.out]
             have H2 := Lib.hid (H1.out.ext hb2)
             clear hb2))
        clear H0 H1
        generalize H2.out.below = HB8
        replace HB8 := Lib.hid HB8
        clear H2 HK
        generalize w2 = W8 at *
        go_upto_region 10 with (fail)
        go_upto_region 11 with (first
          | ((with_reducible refine (HY.out _).mono ?_)
             rintro e w9 ⟨rfl, hb9⟩
             have HB9 := Lib.hid (HB8.out.trans (hb9.mono HB8.out.size))
             clear hb9)
          | (with_reducible refine wpList_store_blk (ty := 60) (o := 0) _ x.vals (by with_unfolding_all rfl) (by with_unfolding_all rfl) (Blk.new w9 zPause 60) (by with_unfolding_all exact Nat.le_refl _) (by with_unfolding_all exact info60) (Pa.one _) (fun W10 hBW10 hoW10 => ?_)))
        have H10 : Hid (St w.heap.size w W10 [bk w9.heap.size 60 x.vals]) := Lib.hid ((((St.init w).ext HB9.out).alloc zPause 60).sets (L' := x.vals) hBW10 hoW10)
        clear hBW10 hoW10 HB9 HB8
        generalize w9.heap.size = P9 at *
        go_upto_region 14 with (first
          | (with_reducible refine wpList_load_rng (ty := 60) x.vals (by with_unfolding_all rfl) (Blk.box (H10.out.at 0 rfl)).range Tryd.underlying60 (by with_unfolding_all rfl) (by with_unfolding_all exact info60) ?_)
          | ((with_reducible refine (HXW.out _).mono ?_)
             rintro e w11 ⟨rfl, hb11⟩
             have H11 := Lib.hid (H10.out.ext hb11)
             clear hb11))
        go_wp2_with (first
          | (with_reducible refine wpList_load_rngG (ty := 60) x.vals (by with_unfolding_all rfl) (by with_unfolding_all rfl) (Blk.box (H11.out.at 0 rfl)).range Tryd.underlying60 (by with_unfolding_all rfl) (by with_unfolding_all exact info60) ?_)
          | ((with_reducible refine (paRight_any x _).mono ?_)
             rintro e w14 ⟨rfl, hb14⟩
             rw [HXK.out]
             have H14 := Lib.hid (H11.out.ext hb14)
             clear hb14)
          | ((with_reducible refine (HXP.out _).mono ?_)
             rintro e w12 ⟨rfl, rfl⟩
             skip)
          | ((with_reducible refine (HXT.out _).mono ?_)
             rintro e w13 ⟨rfl, hb13⟩
             have H13 := Lib.hid (H14.out.ext hb13)
             clear hb13))
        go_ret
        exact ⟨rfl, H13.out.below⟩
  · by_cases hl : 300 < s.length
    · have hlI : (300 : Int) < (s.length : Int) := by omega
      have HW := Lib.hid (paWrite_ok a hk)
      have HR := Lib.hid (fun W => (paRead_pad a [] hk (by simp) (by decide) W))
      rw [List.append_nil] at HR
      have EL := pa_neq a
      have GL := fun p q => pa_guard .neq a p q
      have HK := Lib.hid hk
      clear hk
      generalize a.bytes = Sa at *
      go_enter Tryd.func7, Tryd.ntmps7
      go_upto_region 1 with (fail)
      generalize World.alloc _ _ = w0 at *
      go_upto_region 3 with (first
        | ((with_reducible refine (paused_any _).mono ?_)
           rintro e w1 ⟨rfl, hb1⟩
           have H1 := Lib.hid (H0.out.ext hb1)
           clear hb1))
      go_upto_region 4 with (first
        | (with_reducible refine wpList_load_rng (ty := 60) a.vals (by with_unfolding_all rfl) (Blk.box (H1.out.at 0 rfl)).range Tryd.underlying60 (by with_unfolding_all rfl) (by with_unfolding_all exact info60) ?_)
        | ((with_reducible refine (paRight_any a _).mono ?_)
           rintro e w2 ⟨rfl, hb2⟩
           rw [HK.out]
           have H2 := Lib.hid (H1.out.ext hb2)
           clear hb2))
      go_upto_region 5 with (first
        | (with_reducible refine wpList_load_rng (ty := 60) a.vals (by with_unfolding_all rfl) (Blk.box (H2.out.at 0 rfl)).range Tryd.underlying60 (by with_unfolding_all rfl) (by with_unfolding_all exact info60) ?_)
        | ((with_reducible refine (HW.out _).mono ?_)
           rintro e w3 ⟨rfl, hb3⟩
           have H3 := Lib.hid (H2.out.ext hb3)
           clear hb3))
      go_upto_region 6 with (first
        | ((with_reducible refine (HR.out _).mono ?_)
           rintro e w4 ⟨rfl, hb4⟩
           have H4 := Lib.hid (H3.out.ext hb4)
           clear hb4)
        | (with_reducible refine wpList_store_blk (ty := 60) (o := 0) _ a.vals (by with_unfolding_all rfl) (by with_unfolding_all rfl) (Blk.new w4 zPause 60) (by with_unfolding_all exact Nat.le_refl _) (by with_unfolding_all exact info60) (Pa.one _) (fun W5 hBW5 hoW5 => ?_)))
      have H5 : Hid (St w.heap.size w W5 [bk w4.heap.size 60 a.vals, bk w.heap.size 60 a.vals]) := Lib.hid ((H4.out.alloc zPause 60).sets (L' := a.vals) hBW5 hoW5)
      clear hBW5 hoW5 H4 H3 H2 H1 H0
      generalize w4.heap.size = P at *
      go_upto_region 8 with (first
        | (with_reducible refine wpList_load_rngG (ty := 60) a.vals (by with_unfolding_all rfl) (by with_unfolding_all rfl) (Blk.box (H5.out.at 0 rfl)).range Tryd.underlying60 (by with_unfolding_all rfl) (by with_unfolding_all exact info60) ?_)
        | (with_reducible refine wpList_load_rngG (ty := 60) a.vals (by with_unfolding_all rfl) (by with_unfolding_all rfl) (Blk.box (H5.out.at 1 rfl)).range Tryd.underlying60 (by with_unfolding_all rfl) (by with_unfolding_all exact info60) ?_))
      generalize H5.out.below = HB8
      replace HB8 := Lib.hid HB8
      clear H5 HK HW HR EL GL
      generalize W5 = W8 at *
      go_wp2_with fail
      go_ret
      exact ⟨rfl, HB8.out⟩
    · have hlI : ¬ (300 : Int) < (s.length : Int) := by omega
      have hs' : s.length ≤ 4611686018427387904 := by omega
      cases hr : (readPaM s).2.1
      · have HN := Lib.hid (paRead_not s hs' hr)
        clear hr
        have HW := Lib.hid (paWrite_ok a hk)
        have HR := Lib.hid (fun W => (paRead_pad a [] hk (by simp) (by decide) W))
        rw [List.append_nil] at HR
        have EL := pa_neq a
        have GL := fun p q => pa_guard .neq a p q
        have HK := Lib.hid hk
        clear hk
        generalize a.bytes = Sa at *
        go_enter Tryd.func7, Tryd.ntmps7
        go_upto_region 1 with (fail)
        generalize World.alloc _ _ = w0 at *
        go_upto_region 3 with (first
          | ((with_reducible refine (paused_any _).mono ?_)
             rintro e w1 ⟨rfl, hb1⟩
             have H1 := Lib.hid (H0.out.ext hb1)
             clear hb1))
        go_upto_region 4 with (first
          | (with_reducible refine wpList_load_rng (ty := 60) a.vals (by with_unfolding_all rfl) (Blk.box (H1.out.at 0 rfl)).range Tryd.underlying60 (by with_unfolding_all rfl) (by with_unfolding_all exact info60) ?_)
          | ((with_reducible refine (paRight_any a _).mono ?_)
             rintro e w2 ⟨rfl, hb2⟩
             rw [HK.out]
             have H2 := Lib.hid (H1.out.ext hb2)
             clear hb2))
        go_upto_region 5 with (first
          | (with_reducible refine wpList_load_rng (ty := 60) a.vals (by with_unfolding_all rfl) (Blk.box (H2.out.at 0 rfl)).range Tryd.underlying60 (by with_unfolding_all rfl) (by with_unfolding_all exact info60) ?_)
          | ((with_reducible refine (HW.out _).mono ?_)
             rintro e w3 ⟨rfl, hb3⟩
             have H3 := Lib.hid (H2.out.ext hb3)
             clear hb3))
        go_upto_region 6 with (first
          | ((with_reducible refine (HR.out _).mono ?_)
             rintro e w4 ⟨rfl, hb4⟩
             have H4 := Lib.hid (H3.out.ext hb4)
             clear hb4)
          | (with_reducible refine wpList_store_blk (ty := 60) (o := 0) _ a.vals (by with_unfolding_all rfl) (by with_unfolding_all rfl) (Blk.new w4 zPause 60) (by with_unfolding_all exact Nat.le_refl _) (by with_unfolding_all exact info60) (Pa.one _) (fun W5 hBW5 hoW5 => ?_)))
        have H5 : Hid (St w.heap.size w W5 [bk w4.heap.size 60 a.vals, bk w.heap.size 60 a.vals]) := Lib.hid ((H4.out.alloc zPause 60).sets (L' := a.vals) hBW5 hoW5)
        clear hBW5 hoW5 H4 H3 H2 H1 H0
        generalize w4.heap.size = P at *
        go_upto_region 8 with (first
          | (with_reducible refine wpList_load_rngG (ty := 60) a.vals (by with_unfolding_all rfl) (by with_unfolding_all rfl) (Blk.box (H5.out.at 0 rfl)).range Tryd.underlying60 (by with_unfolding_all rfl) (by with_unfolding_all exact info60) ?_)
          | (with_reducible refine wpList_load_rngG (ty := 60) a.vals (by with_unfolding_all rfl) (by with_unfolding_all rfl) (Blk.box (H5.out.at 1 rfl)).range Tryd.underlying60 (by with_unfolding_all rfl) (by with_unfolding_all exact info60) ?_))
        generalize H5.out.below = HB8
        replace HB8 := Lib.hid HB8
        clear H5 HK HW HR EL GL
        generalize W5 = W8 at *
        go_upto_region 10 with (fail)
        go_upto_region 11 with (first
          | ((with_reducible refine (HN.out _).mono ?_)
             rintro e w9 ⟨g9, rfl, hb9⟩
             have HB9 := Lib.hid (HB8.out.trans (hb9.mono HB8.out.size))
             clear hb9)
          | (with_reducible refine wpList_store_blk (ty := 60) (o := 0) _ zPa.vals (by with_unfolding_all rfl) (by with_unfolding_all rfl) (Blk.new w9 zPause 60) (by with_unfolding_all exact Nat.le_refl _) (by with_unfolding_all exact info60) (Pa.one _) (fun W10 hBW10 hoW10 => ?_)))
        have H10 : Hid (St w.heap.size w W10 [bk w9.heap.size 60 zPa.vals]) := Lib.hid ((((St.init w).ext HB9.out).alloc zPause 60).sets (L' := zPa.vals) hBW10 hoW10)
        clear hBW10 hoW10 HB9 HB8
        generalize w9.heap.size = P9 at *
        have EZ := pa_eq zPa
        have GZ := fun p q => pa_guard .eql zPa p q
        have PZ := Lib.hid pa_zero
        generalize zPa = Z at *
        go_wp2_with (first
          | (with_reducible refine wpList_load_rng (ty := 60) Z.vals (by with_unfolding_all rfl) (Blk.box (H10.out.at 0 rfl)).range Tryd.underlying60 (by with_unfolding_all rfl) (by with_unfolding_all exact info60) ?_)
          | (with_reducible refine wpList_buildA (t := 60) [] Z.vals (by with_unfolding_all rfl) PZ.out ?_))
        go_ret
        exact ⟨rfl, H10.out.below⟩
      · have HY := Lib.hid (paRead_yes s hs' hr)
        obtain ⟨hx, pad, hsp, hpad⟩ := readPa_back s hs' hr
        generalize (readPaM s).1 = x at *
        have HXW := Lib.hid (paWrite_ok x hx)
        have HXK := Lib.hid hx
        have hxl := Pa.bytes_len x
        have HXP : Hid (∀ W, Calls Tryd.prog 20 #[.string ⟨s.toArray⟩, .string ⟨x.bytes.toArray⟩] W fun e w' => e = .returned (.bool true) ∧ w' = W) := Lib.hid (fun W => by
          have := Tryd.strings_HasPrefix ⟨s.toArray⟩ ⟨x.bytes.toArray⟩ W
          rw [show Lib.hasPrefix s x.bytes = true by rw [hsp]; exact prefix_self _ _] at this
          exact this)
        have hdp : s.drop x.bytes.length = pad := by
          have h2 := congrArg (List.drop x.bytes.length) hsp
          rw [List.drop_left' rfl] at h2
          exact h2
        have HXT : Hid (∀ W, Calls Tryd.prog 21 #[.string ⟨(s.drop x.bytes.length).toArray⟩, .string ⟨#[0]⟩] W fun e w' => e = .returned (.string ⟨#[]⟩) ∧ Below W.heap.size W w') := Lib.hid (fun W => by
          rw [hdp]
          refine (Tryd.strings_Trim_one ⟨pad.toArray⟩ 0 (by decide) W (by show pad.length ≤ _; have := congrArg List.length hsp; rw [List.length_append] at this; omega)).mono ?_
          rintro e w' ⟨rfl, h | h⟩
          · subst h; exact ⟨by rw [show Lib.trimB pad 0 = [] from trim_zeros pad hpad], Below.refl _ _⟩
          · subst h; exact ⟨by rw [show Lib.trimB pad 0 = [] from trim_zeros pad hpad], (Below.refl _ _).drew⟩)
        have hge : x.bytes.length ≤ s.length := by have := congrArg List.length hsp; rw [List.length_append] at this; omega
        have Hsp := Lib.hid hsp
        clear hr hx hsp hdp
        generalize x.bytes = Sx at *
        have HW := Lib.hid (paWrite_ok a hk)
        have HR := Lib.hid (fun W => (paRead_pad a [] hk (by simp) (by decide) W))
        rw [List.append_nil] at HR
        have EL := pa_neq a
        have GL := fun p q => pa_guard .neq a p q
        have HK := Lib.hid hk
        clear hk
        generalize a.bytes = Sa at *
        go_enter Tryd.func7, Tryd.ntmps7
        go_upto_region 1 with (fail)
        generalize World.alloc _ _ = w0 at *
        go_upto_region 3 with (first
          | ((with_reducible refine (paused_any _).mono ?_)
             rintro e w1 ⟨rfl, hb1⟩
             have H1 := Lib.hid (H0.out.ext hb1)
             clear hb1))
        go_upto_region 4 with (first
          | (with_reducible refine wpList_load_rng (ty := 60) a.vals (by with_unfolding_all rfl) (Blk.box (H1.out.at 0 rfl)).range Tryd.underlying60 (by with_unfolding_all rfl) (by with_unfolding_all exact info60) ?_)
          | ((with_reducible refine (paRight_any a _).mono ?_)
             rintro e w2 ⟨rfl, hb2⟩
             rw [HK.out]
             have H2 := Lib.hid (H1.out.ext hb2)
             clear hb2))
        go_upto_region 5 with (first
          | (with_reducible refine wpList_load_rng (ty := 60) a.vals (by with_unfolding_all rfl) (Blk.box (H2.out.at 0 rfl)).range Tryd.underlying60 (by with_unfolding_all rfl) (by with_unfolding_all exact info60) ?_)
          | ((with_reducible refine (HW.out _).mono ?_)
             rintro e w3 ⟨rfl, hb3⟩
             have H3 := Lib.hid (H2.out.ext hb3)
             clear hb3))
        go_upto_region 6 with (first
          | ((with_reducible refine (HR.out _).mono ?_)
             rintro e w4 ⟨rfl, hb4⟩
             have H4 := Lib.hid (H3.out.ext hb4)
             clear hb4)
          | (with_reducible refine wpList_store_blk (ty := 60) (o := 0) _ a.vals (by with_unfolding_all rfl) (by with_unfolding_all rfl) (Blk.new w4 zPause 60) (by with_unfolding_all exact Nat.le_refl _) (by with_unfolding_all exact info60) (Pa.one _) (fun W5 hBW5 hoW5 => ?_)))
        have H5 : Hid (St w.heap.size w W5 [bk w4.heap.size 60 a.vals, bk w.heap.size 60 a.vals]) := Lib.hid ((H4.out.alloc zPause 60).sets (L' := a.vals) hBW5 hoW5)
        clear hBW5 hoW5 H4 H3 H2 H1 H0
        generalize w4.heap.size = P at *
        go_upto_region 8 with (first
          | (with_reducible refine wpList_load_rngG (ty := 60) a.vals (by with_unfolding_all rfl) (by with_unfolding_all rfl) (Blk.box (H5.out.at 0 rfl)).range Tryd.underlying60 (by with_unfolding_all rfl) (by with_unfolding_all exact info60) ?_)
          | (with_reducible refine wpList_load_rngG (ty := 60) a.vals (by with_unfolding_all rfl) (by with_unfolding_all rfl) (Blk.box (H5.out.at 1 rfl)).range Tryd.underlying60 (by with_unfolding_all rfl) (by with_unfolding_all exact info60) ?_))
        generalize H5.out.below = HB8
        replace HB8 := Lib.hid HB8
        clear H5 HK HW HR EL GL
        generalize W5 = W8 at *
        go_upto_region 10 with (fail)
        go_upto_region 11 with (first
          | ((with_reducible refine (HY.out _).mono ?_)
             rintro e w9 ⟨rfl, hb9⟩
             have HB9 := Lib.hid (HB8.out.trans (hb9.mono HB8.out.size))
             clear hb9)
          | (with_reducible refine wpList_store_blk (ty := 60) (o := 0) _ x.vals (by with_unfolding_all rfl) (by with_unfolding_all rfl) (Blk.new w9 zPause 60) (by with_unfolding_all exact Nat.le_refl _) (by with_unfolding_all exact info60) (Pa.one _) (fun W10 hBW10 hoW10 => ?_)))
        have H10 : Hid (St w.heap.size w W10 [bk w9.heap.size 60 x.vals]) := Lib.hid ((((St.init w).ext HB9.out).alloc zPause 60).sets (L' := x.vals) hBW10 hoW10)
        clear hBW10 hoW10 HB9 HB8
        generalize w9.heap.size = P9 at *
        go_upto_region 14 with (first
          | (with_reducible refine wpList_load_rng (ty := 60) x.vals (by with_unfolding_all rfl) (Blk.box (H10.out.at 0 rfl)).range Tryd.underlying60 (by with_unfolding_all rfl) (by with_unfolding_all exact info60) ?_)
          | ((with_reducible refine (HXW.out _).mono ?_)
             rintro e w11 ⟨rfl, hb11⟩
             have H11 := Lib.hid (H10.out.ext hb11)
             clear hb11))
        go_wp2_with (first
          | (with_reducible refine wpList_load_rngG (ty := 60) x.vals (by with_unfolding_all rfl) (by with_unfolding_all rfl) (Blk.box (H11.out.at 0 rfl)).range Tryd.underlying60 (by with_unfolding_all rfl) (by with_unfolding_all exact info60) ?_)
          | ((with_reducible refine (paRight_any x _).mono ?_)
             rintro e w14 ⟨rfl, hb14⟩
             rw [HXK.out]
             have H14 := Lib.hid (H11.out.ext hb14)
             clear hb14)
          | ((with_reducible refine (HXP.out _).mono ?_)
             rintro e w12 ⟨rfl, rfl⟩
             skip)
          | ((with_reducible refine (HXT.out _).mono ?_)
             rintro e w13 ⟨rfl, hb13⟩
             have H13 := Lib.hid (H14.out.ext hb13)
             clear hb13))
        go_ret
        exact ⟨rfl, H13.out.below⟩
end Go.Proofs.YtidcjbanhdpkkaaDoor

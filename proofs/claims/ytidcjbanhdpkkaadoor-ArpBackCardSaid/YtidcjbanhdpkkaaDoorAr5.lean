/- ArpBack. (Printed by tools/mkar5.py.) -/
import Derived.Test.YtidcjbanhdpkkaaDoorAr4
import Derived.Test.YtidcjbanhdpkkaaDoorShelf
import Derived.Test.YtidcjbanhdpkkaaDoorTabVar
namespace Go.Proofs.YtidcjbanhdpkkaaDoor
open Go.RowKit
theorem arRead_yes (s : List UInt8) (hs : s.length ≤ 4611686018427387904) (h : (readArM s).2.1 = true) (w : World) :
    Calls Tryd.prog 19 #[.string ⟨s.toArray⟩] w fun e w' => e = .returned (.tuple #[.agg (readArM s).1.vals.toArray, .nilIface]) ∧ Below w.heap.size w w' := by
  refine (arRead_any s hs w).mono ?_
  rintro e w1 ⟨b, g, rfl, hS⟩
  exact ⟨by unfold arGot; rw [if_pos h], hS.below⟩
theorem arRead_not (s : List UInt8) (hs : s.length ≤ 4611686018427387904) (h : (readArM s).2.1 = false) (w : World) :
    Calls Tryd.prog 19 #[.string ⟨s.toArray⟩] w fun e w' => ∃ g, e = .returned (.tuple #[.agg z0.vals.toArray, .iface 133 (.pointer (some ⟨g, 0, none⟩))]) ∧ Below w.heap.size w w' := by
  refine (arRead_any s hs w).mono ?_
  rintro e w1 ⟨b, g, rfl, hS⟩
  refine ⟨g, ?_, hS.below⟩
  have hn : (readArM s).2.2.err ≠ none := fun he => by
    have := zerosM_err.2 he
    rw [show (zerosM _).1 = (readArM s).2.1 from rfl, h] at this
    cases this
  obtain ⟨x, hx⟩ := Option.ne_none_iff_exists'.1 hn
  unfold arGot
  rw [if_neg (by rw [h]; decide), errV_some hx]
theorem trim_zeros (l : List UInt8) (h : ∀ c ∈ l, c = 0) : Lib.trimB l 0 = [] := by
  unfold Lib.trimB Lib.trimLeftB Lib.trimRightB
  have h1 : (l.reverse.dropWhile (· == (0 : UInt8))) = [] := by
    have h' : ∀ c ∈ l.reverse, c = 0 := fun c hc => h c (List.mem_reverse.1 hc)
    generalize l.reverse = m at h'
    induction m with
    | nil => rfl
    | cons a m ih =>
      rw [List.dropWhile_cons_of_pos (by simp [h' a (List.mem_cons_self ..)])]
      exact ih (fun c hc => h' c (List.mem_cons_of_mem _ hc))
  rw [h1]; rfl
theorem prefix_self (a b : List UInt8) : Lib.hasPrefix (a ++ b) a = true := by
  unfold Lib.hasPrefix
  rw [List.isPrefixOf_iff_prefix]; exact List.prefix_append a b
set_option maxRecDepth 100000 in
set_option maxHeartbeats 2000000 in
theorem law_ArpBack (v : Value) (a : Ar) (s : List UInt8) (hs : s.length ≤ 9223372036854775807) (w : World) (hv : v = .agg a.vals.toArray) :
    Calls Tryd.prog 6 #[v, .string ⟨s.toArray⟩] w fun e w' => e = .returned (.bool true) ∧ Below w.heap.size w w' := by
  subst hv

  have H0 := Lib.hid ((St.init w).alloc a.vals 26)
  cases hk : a.okB
  · by_cases hl : 300 < s.length
    · have hlI : (300 : Int) < (s.length : Int) := by omega
      have HK := Lib.hid hk
      clear hk
      go_enter Tryd.func6, Tryd.ntmps6
      go_upto_region 1 with (fail)
      generalize World.alloc _ _ = w0 at *
      go_upto_region 3 with (first
        | ((with_reducible refine (asked_any _).mono ?_)
           rintro e w1 ⟨rfl, hb1⟩
           have H1 := Lib.hid (H0.out.ext hb1)
           clear hb1))
      go_upto_region 8 with (first
        | (with_reducible refine wpList_load_rng (ty := 26) a.vals (by with_unfolding_all rfl) (Blk.box (H1.out.at 0 rfl)).range Tryd.underlying26 (by with_unfolding_all rfl) (by with_unfolding_all exact info26) ?_)
        | ((with_reducible refine (arRight_any a _).mono ?_)
           rintro e w2 ⟨rfl, hb2⟩
           rw [HK.out]
           have H2 := Lib.hid (H1.out.ext hb2)
           clear hb2))
      clear H0 H1
      generalize H2.out.below = HB8
      replace HB8 := Lib.hid HB8
      clear H2 HK
      generalize w2 = W8 at *
      go_wp2_with fail
      go_ret
      exact ⟨rfl, HB8.out⟩
    · have hlI : ¬ (300 : Int) < (s.length : Int) := by omega
      have hs' : s.length ≤ 4611686018427387904 := by omega
      cases hr : (readArM s).2.1
      · have HN := Lib.hid (arRead_not s hs' hr)
        clear hr
        have HK := Lib.hid hk
        clear hk
        go_enter Tryd.func6, Tryd.ntmps6
        go_upto_region 1 with (fail)
        generalize World.alloc _ _ = w0 at *
        go_upto_region 3 with (first
          | ((with_reducible refine (asked_any _).mono ?_)
             rintro e w1 ⟨rfl, hb1⟩
             have H1 := Lib.hid (H0.out.ext hb1)
             clear hb1))
        go_upto_region 8 with (first
          | (with_reducible refine wpList_load_rng (ty := 26) a.vals (by with_unfolding_all rfl) (Blk.box (H1.out.at 0 rfl)).range Tryd.underlying26 (by with_unfolding_all rfl) (by with_unfolding_all exact info26) ?_)
          | ((with_reducible refine (arRight_any a _).mono ?_)
             rintro e w2 ⟨rfl, hb2⟩
             rw [HK.out]
             have H2 := Lib.hid (H1.out.ext hb2)
             clear hb2))
        clear H0 H1
        generalize H2.out.below = HB8
        replace HB8 := Lib.hid HB8
        clear H2 HK
        generalize w2 = W8 at *
        go_upto_region 10 with (fail)
        go_upto_region 11 with (first
          | ((with_reducible refine (HN.out _).mono ?_)
             rintro e w9 ⟨g9, rfl, hb9⟩
             have HB9 := Lib.hid (HB8.out.trans (hb9.mono HB8.out.size))
             clear hb9)
          | (with_reducible refine wpList_store_blk (ty := 26) (o := 0) _ z0.vals (by with_unfolding_all rfl) (by with_unfolding_all rfl) (Blk.new w9 zAr 26) (by with_unfolding_all exact Nat.le_refl _) (by with_unfolding_all exact info26) (Ar.one _) (fun W10 hBW10 hoW10 => ?_)))
        have H10 : Hid (St w.heap.size w W10 [bk w9.heap.size 26 z0.vals]) := Lib.hid ((((St.init w).ext HB9.out).alloc zAr 26).sets (L' := z0.vals) hBW10 hoW10)
        clear hBW10 hoW10 HB9 HB8
        generalize w9.heap.size = P9 at *
        have EZ := ar_eq z0
        have GZ := fun p q => ar_guard .eql z0 p q
        have PZ := Lib.hid ar_zero
        generalize z0 = Z at *
        go_wp2_with (first
          | (with_reducible refine wpList_load_rng (ty := 26) Z.vals (by with_unfolding_all rfl) (Blk.box (H10.out.at 0 rfl)).range Tryd.underlying26 (by with_unfolding_all rfl) (by with_unfolding_all exact info26) ?_)
          | (with_reducible refine wpList_buildA (t := 26) [] Z.vals (by with_unfolding_all rfl) PZ.out ?_))
        go_ret
        exact ⟨rfl, H10.out.below⟩
      · have HY := Lib.hid (arRead_yes s hs' hr)
        obtain ⟨hx, pad, hsp, hpad⟩ := readAr_back s hs' hr
        generalize (readArM s).1 = x at *
        have HXW := Lib.hid (arWrite_ok x hx)
        have hxl := Ar.bytes_len x
        have HXP : Hid (∀ W, Calls Tryd.prog 20 #[.string ⟨s.toArray⟩, .string ⟨x.bytes.toArray⟩] W fun e w' => e = .returned (.bool true) ∧ w' = W) := Lib.hid (fun W => by
          have := Tryd.strings_HasPrefix ⟨s.toArray⟩ ⟨x.bytes.toArray⟩ W
          rw [show Lib.hasPrefix s x.bytes = true by rw [hsp]; exact prefix_self _ _] at this
          exact this)
        have hdp : s.drop 28 = pad := by rw [hsp, ← hxl, List.drop_left' rfl]
        have HXT : Hid (∀ W, Calls Tryd.prog 21 #[.string ⟨(s.drop 28).toArray⟩, .string ⟨#[0]⟩] W fun e w' => e = .returned (.string ⟨#[]⟩) ∧ Below W.heap.size W w') := Lib.hid (fun W => by
          rw [hdp]
          refine (Tryd.strings_Trim_one ⟨pad.toArray⟩ 0 (by decide) W (by show pad.length ≤ _; have := congrArg List.length hsp; rw [List.length_append] at this; omega)).mono ?_
          rintro e w' ⟨rfl, h | h⟩
          · subst h; exact ⟨by rw [show Lib.trimB pad 0 = [] from trim_zeros pad hpad], Below.refl _ _⟩
          · subst h; exact ⟨by rw [show Lib.trimB pad 0 = [] from trim_zeros pad hpad], (Below.refl _ _).drew⟩)
        have hge : 28 ≤ s.length := by have := congrArg List.length hsp; rw [List.length_append] at this; omega
        have Hsp := Lib.hid hsp
        clear hr hx hsp hdp
        generalize x.bytes = Sx at *
        have HK := Lib.hid hk
        clear hk
        go_enter Tryd.func6, Tryd.ntmps6
        go_upto_region 1 with (fail)
        generalize World.alloc _ _ = w0 at *
        go_upto_region 3 with (first
          | ((with_reducible refine (asked_any _).mono ?_)
             rintro e w1 ⟨rfl, hb1⟩
             have H1 := Lib.hid (H0.out.ext hb1)
             clear hb1))
        go_upto_region 8 with (first
          | (with_reducible refine wpList_load_rng (ty := 26) a.vals (by with_unfolding_all rfl) (Blk.box (H1.out.at 0 rfl)).range Tryd.underlying26 (by with_unfolding_all rfl) (by with_unfolding_all exact info26) ?_)
          | ((with_reducible refine (arRight_any a _).mono ?_)
             rintro e w2 ⟨rfl, hb2⟩
             rw [HK.out]
             have H2 := Lib.hid (H1.out.ext hb2)
             clear hb2))
        clear H0 H1
        generalize H2.out.below = HB8
        replace HB8 := Lib.hid HB8
        clear H2 HK
        generalize w2 = W8 at *
        go_upto_region 10 with (fail)
        go_upto_region 11 with (first
          | ((with_reducible refine (HY.out _).mono ?_)
             rintro e w9 ⟨rfl, hb9⟩
             have HB9 := Lib.hid (HB8.out.trans (hb9.mono HB8.out.size))
             clear hb9)
          | (with_reducible refine wpList_store_blk (ty := 26) (o := 0) _ x.vals (by with_unfolding_all rfl) (by with_unfolding_all rfl) (Blk.new w9 zAr 26) (by with_unfolding_all exact Nat.le_refl _) (by with_unfolding_all exact info26) (Ar.one _) (fun W10 hBW10 hoW10 => ?_)))
        have H10 : Hid (St w.heap.size w W10 [bk w9.heap.size 26 x.vals]) := Lib.hid ((((St.init w).ext HB9.out).alloc zAr 26).sets (L' := x.vals) hBW10 hoW10)
        clear hBW10 hoW10 HB9 HB8
        generalize w9.heap.size = P9 at *
        go_upto_region 14 with (first
          | (with_reducible refine wpList_load_rng (ty := 26) x.vals (by with_unfolding_all rfl) (Blk.box (H10.out.at 0 rfl)).range Tryd.underlying26 (by with_unfolding_all rfl) (by with_unfolding_all exact info26) ?_)
          | ((with_reducible refine (HXW.out _).mono ?_)
             rintro e w11 ⟨rfl, hb11⟩
             have H11 := Lib.hid (H10.out.ext hb11)
             clear hb11))
        go_wp2_with (first
          | ((with_reducible refine (HXP.out _).mono ?_)
             rintro e w12 ⟨rfl, rfl⟩
             skip)
          | ((with_reducible refine (HXT.out _).mono ?_)
             rintro e w13 ⟨rfl, hb13⟩
             have H13 := Lib.hid (H11.out.ext hb13)
             clear hb13))
        go_ret
        exact ⟨rfl, H13.out.below⟩
  · by_cases hl : 300 < s.length
    · have hlI : (300 : Int) < (s.length : Int) := by omega
      have HW := Lib.hid (arWrite_ok a hk)
      have HR := Lib.hid (fun W => (arRead_pad a [] hk (by simp) (by decide) W))
      rw [List.append_nil] at HR
      have hb1 : ((a.bytes.length : Int) != 28) = false := by rw [Ar.bytes_len]; rfl
      have EL := ar_neq a
      have GL := fun p q => ar_guard .neq a p q
      have HK := Lib.hid hk
      clear hk
      generalize a.bytes = Sa at *
      go_enter Tryd.func6, Tryd.ntmps6
      go_upto_region 1 with (fail)
      generalize World.alloc _ _ = w0 at *
      go_upto_region 3 with (first
        | ((with_reducible refine (asked_any _).mono ?_)
           rintro e w1 ⟨rfl, hb1⟩
           have H1 := Lib.hid (H0.out.ext hb1)
           clear hb1))
      go_upto_region 4 with (first
        | (with_reducible refine wpList_load_rng (ty := 26) a.vals (by with_unfolding_all rfl) (Blk.box (H1.out.at 0 rfl)).range Tryd.underlying26 (by with_unfolding_all rfl) (by with_unfolding_all exact info26) ?_)
        | ((with_reducible refine (arRight_any a _).mono ?_)
           rintro e w2 ⟨rfl, hb2⟩
           rw [HK.out]
           have H2 := Lib.hid (H1.out.ext hb2)
           clear hb2))
      go_upto_region 5 with (first
        | (with_reducible refine wpList_load_rng (ty := 26) a.vals (by with_unfolding_all rfl) (Blk.box (H2.out.at 0 rfl)).range Tryd.underlying26 (by with_unfolding_all rfl) (by with_unfolding_all exact info26) ?_)
        | ((with_reducible refine (HW.out _).mono ?_)
           rintro e w3 ⟨rfl, hb3⟩
           have H3 := Lib.hid (H2.out.ext hb3)
           clear hb3))
      go_upto_region 6 with (first
        | ((with_reducible refine (HR.out _).mono ?_)
           rintro e w4 ⟨rfl, hb4⟩
           have H4 := Lib.hid (H3.out.ext hb4)
           clear hb4)
        | (with_reducible refine wpList_store_blk (ty := 26) (o := 0) _ a.vals (by with_unfolding_all rfl) (by with_unfolding_all rfl) (Blk.new w4 zAr 26) (by with_unfolding_all exact Nat.le_refl _) (by with_unfolding_all exact info26) (Ar.one _) (fun W5 hBW5 hoW5 => ?_)))
      have H5 : Hid (St w.heap.size w W5 [bk w4.heap.size 26 a.vals, bk w.heap.size 26 a.vals]) := Lib.hid ((H4.out.alloc zAr 26).sets (L' := a.vals) hBW5 hoW5)
      clear hBW5 hoW5 H4 H3 H2 H1 H0
      generalize w4.heap.size = P at *
      go_upto_region 8 with (first
        | (with_reducible refine wpList_load_rngG (ty := 26) a.vals (by with_unfolding_all rfl) (by with_unfolding_all rfl) (Blk.box (H5.out.at 0 rfl)).range Tryd.underlying26 (by with_unfolding_all rfl) (by with_unfolding_all exact info26) ?_)
        | (with_reducible refine wpList_load_rngG (ty := 26) a.vals (by with_unfolding_all rfl) (by with_unfolding_all rfl) (Blk.box (H5.out.at 1 rfl)).range Tryd.underlying26 (by with_unfolding_all rfl) (by with_unfolding_all exact info26) ?_))
      generalize H5.out.below = HB8
      replace HB8 := Lib.hid HB8
      clear H5 HK HW HR EL GL hb1
      generalize W5 = W8 at *
      go_wp2_with fail
      go_ret
      exact ⟨rfl, HB8.out⟩
    · have hlI : ¬ (300 : Int) < (s.length : Int) := by omega
      have hs' : s.length ≤ 4611686018427387904 := by omega
      cases hr : (readArM s).2.1
      · have HN := Lib.hid (arRead_not s hs' hr)
        clear hr
        have HW := Lib.hid (arWrite_ok a hk)
        have HR := Lib.hid (fun W => (arRead_pad a [] hk (by simp) (by decide) W))
        rw [List.append_nil] at HR
        have hb1 : ((a.bytes.length : Int) != 28) = false := by rw [Ar.bytes_len]; rfl
        have EL := ar_neq a
        have GL := fun p q => ar_guard .neq a p q
        have HK := Lib.hid hk
        clear hk
        generalize a.bytes = Sa at *
        go_enter Tryd.func6, Tryd.ntmps6
        go_upto_region 1 with (fail)
        generalize World.alloc _ _ = w0 at *
        go_upto_region 3 with (first
          | ((with_reducible refine (asked_any _).mono ?_)
             rintro e w1 ⟨rfl, hb1⟩
             have H1 := Lib.hid (H0.out.ext hb1)
             clear hb1))
        go_upto_region 4 with (first
          | (with_reducible refine wpList_load_rng (ty := 26) a.vals (by with_unfolding_all rfl) (Blk.box (H1.out.at 0 rfl)).range Tryd.underlying26 (by with_unfolding_all rfl) (by with_unfolding_all exact info26) ?_)
          | ((with_reducible refine (arRight_any a _).mono ?_)
             rintro e w2 ⟨rfl, hb2⟩
             rw [HK.out]
             have H2 := Lib.hid (H1.out.ext hb2)
             clear hb2))
        go_upto_region 5 with (first
          | (with_reducible refine wpList_load_rng (ty := 26) a.vals (by with_unfolding_all rfl) (Blk.box (H2.out.at 0 rfl)).range Tryd.underlying26 (by with_unfolding_all rfl) (by with_unfolding_all exact info26) ?_)
          | ((with_reducible refine (HW.out _).mono ?_)
             rintro e w3 ⟨rfl, hb3⟩
             have H3 := Lib.hid (H2.out.ext hb3)
             clear hb3))
        go_upto_region 6 with (first
          | ((with_reducible refine (HR.out _).mono ?_)
             rintro e w4 ⟨rfl, hb4⟩
             have H4 := Lib.hid (H3.out.ext hb4)
             clear hb4)
          | (with_reducible refine wpList_store_blk (ty := 26) (o := 0) _ a.vals (by with_unfolding_all rfl) (by with_unfolding_all rfl) (Blk.new w4 zAr 26) (by with_unfolding_all exact Nat.le_refl _) (by with_unfolding_all exact info26) (Ar.one _) (fun W5 hBW5 hoW5 => ?_)))
        have H5 : Hid (St w.heap.size w W5 [bk w4.heap.size 26 a.vals, bk w.heap.size 26 a.vals]) := Lib.hid ((H4.out.alloc zAr 26).sets (L' := a.vals) hBW5 hoW5)
        clear hBW5 hoW5 H4 H3 H2 H1 H0
        generalize w4.heap.size = P at *
        go_upto_region 8 with (first
          | (with_reducible refine wpList_load_rngG (ty := 26) a.vals (by with_unfolding_all rfl) (by with_unfolding_all rfl) (Blk.box (H5.out.at 0 rfl)).range Tryd.underlying26 (by with_unfolding_all rfl) (by with_unfolding_all exact info26) ?_)
          | (with_reducible refine wpList_load_rngG (ty := 26) a.vals (by with_unfolding_all rfl) (by with_unfolding_all rfl) (Blk.box (H5.out.at 1 rfl)).range Tryd.underlying26 (by with_unfolding_all rfl) (by with_unfolding_all exact info26) ?_))
        generalize H5.out.below = HB8
        replace HB8 := Lib.hid HB8
        clear H5 HK HW HR EL GL hb1
        generalize W5 = W8 at *
        go_upto_region 10 with (fail)
        go_upto_region 11 with (first
          | ((with_reducible refine (HN.out _).mono ?_)
             rintro e w9 ⟨g9, rfl, hb9⟩
             have HB9 := Lib.hid (HB8.out.trans (hb9.mono HB8.out.size))
             clear hb9)
          | (with_reducible refine wpList_store_blk (ty := 26) (o := 0) _ z0.vals (by with_unfolding_all rfl) (by with_unfolding_all rfl) (Blk.new w9 zAr 26) (by with_unfolding_all exact Nat.le_refl _) (by with_unfolding_all exact info26) (Ar.one _) (fun W10 hBW10 hoW10 => ?_)))
        have H10 : Hid (St w.heap.size w W10 [bk w9.heap.size 26 z0.vals]) := Lib.hid ((((St.init w).ext HB9.out).alloc zAr 26).sets (L' := z0.vals) hBW10 hoW10)
        clear hBW10 hoW10 HB9 HB8
        generalize w9.heap.size = P9 at *
        have EZ := ar_eq z0
        have GZ := fun p q => ar_guard .eql z0 p q
        have PZ := Lib.hid ar_zero
        generalize z0 = Z at *
        go_wp2_with (first
          | (with_reducible refine wpList_load_rng (ty := 26) Z.vals (by with_unfolding_all rfl) (Blk.box (H10.out.at 0 rfl)).range Tryd.underlying26 (by with_unfolding_all rfl) (by with_unfolding_all exact info26) ?_)
          | (with_reducible refine wpList_buildA (t := 26) [] Z.vals (by with_unfolding_all rfl) PZ.out ?_))
        go_ret
        exact ⟨rfl, H10.out.below⟩
      · have HY := Lib.hid (arRead_yes s hs' hr)
        obtain ⟨hx, pad, hsp, hpad⟩ := readAr_back s hs' hr
        generalize (readArM s).1 = x at *
        have HXW := Lib.hid (arWrite_ok x hx)
        have hxl := Ar.bytes_len x
        have HXP : Hid (∀ W, Calls Tryd.prog 20 #[.string ⟨s.toArray⟩, .string ⟨x.bytes.toArray⟩] W fun e w' => e = .returned (.bool true) ∧ w' = W) := Lib.hid (fun W => by
          have := Tryd.strings_HasPrefix ⟨s.toArray⟩ ⟨x.bytes.toArray⟩ W
          rw [show Lib.hasPrefix s x.bytes = true by rw [hsp]; exact prefix_self _ _] at this
          exact this)
        have hdp : s.drop 28 = pad := by rw [hsp, ← hxl, List.drop_left' rfl]
        have HXT : Hid (∀ W, Calls Tryd.prog 21 #[.string ⟨(s.drop 28).toArray⟩, .string ⟨#[0]⟩] W fun e w' => e = .returned (.string ⟨#[]⟩) ∧ Below W.heap.size W w') := Lib.hid (fun W => by
          rw [hdp]
          refine (Tryd.strings_Trim_one ⟨pad.toArray⟩ 0 (by decide) W (by show pad.length ≤ _; have := congrArg List.length hsp; rw [List.length_append] at this; omega)).mono ?_
          rintro e w' ⟨rfl, h | h⟩
          · subst h; exact ⟨by rw [show Lib.trimB pad 0 = [] from trim_zeros pad hpad], Below.refl _ _⟩
          · subst h; exact ⟨by rw [show Lib.trimB pad 0 = [] from trim_zeros pad hpad], (Below.refl _ _).drew⟩)
        have hge : 28 ≤ s.length := by have := congrArg List.length hsp; rw [List.length_append] at this; omega
        have Hsp := Lib.hid hsp
        clear hr hx hsp hdp
        generalize x.bytes = Sx at *
        have HW := Lib.hid (arWrite_ok a hk)
        have HR := Lib.hid (fun W => (arRead_pad a [] hk (by simp) (by decide) W))
        rw [List.append_nil] at HR
        have hb1 : ((a.bytes.length : Int) != 28) = false := by rw [Ar.bytes_len]; rfl
        have EL := ar_neq a
        have GL := fun p q => ar_guard .neq a p q
        have HK := Lib.hid hk
        clear hk
        generalize a.bytes = Sa at *
        go_enter Tryd.func6, Tryd.ntmps6
        go_upto_region 1 with (fail)
        generalize World.alloc _ _ = w0 at *
        go_upto_region 3 with (first
          | ((with_reducible refine (asked_any _).mono ?_)
             rintro e w1 ⟨rfl, hb1⟩
             have H1 := Lib.hid (H0.out.ext hb1)
             clear hb1))
        go_upto_region 4 with (first
          | (with_reducible refine wpList_load_rng (ty := 26) a.vals (by with_unfolding_all rfl) (Blk.box (H1.out.at 0 rfl)).range Tryd.underlying26 (by with_unfolding_all rfl) (by with_unfolding_all exact info26) ?_)
          | ((with_reducible refine (arRight_any a _).mono ?_)
             rintro e w2 ⟨rfl, hb2⟩
             rw [HK.out]
             have H2 := Lib.hid (H1.out.ext hb2)
             clear hb2))
        go_upto_region 5 with (first
          | (with_reducible refine wpList_load_rng (ty := 26) a.vals (by with_unfolding_all rfl) (Blk.box (H2.out.at 0 rfl)).range Tryd.underlying26 (by with_unfolding_all rfl) (by with_unfolding_all exact info26) ?_)
          | ((with_reducible refine (HW.out _).mono ?_)
             rintro e w3 ⟨rfl, hb3⟩
             have H3 := Lib.hid (H2.out.ext hb3)
             clear hb3))
        go_upto_region 6 with (first
          | ((with_reducible refine (HR.out _).mono ?_)
             rintro e w4 ⟨rfl, hb4⟩
             have H4 := Lib.hid (H3.out.ext hb4)
             clear hb4)
          | (with_reducible refine wpList_store_blk (ty := 26) (o := 0) _ a.vals (by with_unfolding_all rfl) (by with_unfolding_all rfl) (Blk.new w4 zAr 26) (by with_unfolding_all exact Nat.le_refl _) (by with_unfolding_all exact info26) (Ar.one _) (fun W5 hBW5 hoW5 => ?_)))
        have H5 : Hid (St w.heap.size w W5 [bk w4.heap.size 26 a.vals, bk w.heap.size 26 a.vals]) := Lib.hid ((H4.out.alloc zAr 26).sets (L' := a.vals) hBW5 hoW5)
        clear hBW5 hoW5 H4 H3 H2 H1 H0
        generalize w4.heap.size = P at *
        go_upto_region 8 with (first
          | (with_reducible refine wpList_load_rngG (ty := 26) a.vals (by with_unfolding_all rfl) (by with_unfolding_all rfl) (Blk.box (H5.out.at 0 rfl)).range Tryd.underlying26 (by with_unfolding_all rfl) (by with_unfolding_all exact info26) ?_)
          | (with_reducible refine wpList_load_rngG (ty := 26) a.vals (by with_unfolding_all rfl) (by with_unfolding_all rfl) (Blk.box (H5.out.at 1 rfl)).range Tryd.underlying26 (by with_unfolding_all rfl) (by with_unfolding_all exact info26) ?_))
        generalize H5.out.below = HB8
        replace HB8 := Lib.hid HB8
        clear H5 HK HW HR EL GL hb1
        generalize W5 = W8 at *
        go_upto_region 10 with (fail)
        go_upto_region 11 with (first
          | ((with_reducible refine (HY.out _).mono ?_)
             rintro e w9 ⟨rfl, hb9⟩
             have HB9 := Lib.hid (HB8.out.trans (hb9.mono HB8.out.size))
             clear hb9)
          | (with_reducible refine wpList_store_blk (ty := 26) (o := 0) _ x.vals (by with_unfolding_all rfl) (by with_unfolding_all rfl) (Blk.new w9 zAr 26) (by with_unfolding_all exact Nat.le_refl _) (by with_unfolding_all exact info26) (Ar.one _) (fun W10 hBW10 hoW10 => ?_)))
        have H10 : Hid (St w.heap.size w W10 [bk w9.heap.size 26 x.vals]) := Lib.hid ((((St.init w).ext HB9.out).alloc zAr 26).sets (L' := x.vals) hBW10 hoW10)
        clear hBW10 hoW10 HB9 HB8
        generalize w9.heap.size = P9 at *
        go_upto_region 14 with (first
          | (with_reducible refine wpList_load_rng (ty := 26) x.vals (by with_unfolding_all rfl) (Blk.box (H10.out.at 0 rfl)).range Tryd.underlying26 (by with_unfolding_all rfl) (by with_unfolding_all exact info26) ?_)
          | ((with_reducible refine (HXW.out _).mono ?_)
             rintro e w11 ⟨rfl, hb11⟩
             have H11 := Lib.hid (H10.out.ext hb11)
             clear hb11))
        go_wp2_with (first
          | ((with_reducible refine (HXP.out _).mono ?_)
             rintro e w12 ⟨rfl, rfl⟩
             skip)
          | ((with_reducible refine (HXT.out _).mono ?_)
             rintro e w13 ⟨rfl, hb13⟩
             have H13 := Lib.hid (H11.out.ext hb13)
             clear hb13))
        go_ret
        exact ⟨rfl, H13.out.below⟩
end Go.Proofs.YtidcjbanhdpkkaaDoor

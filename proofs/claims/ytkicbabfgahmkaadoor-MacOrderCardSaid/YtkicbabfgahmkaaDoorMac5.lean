/- The laws MacReserved, MacOrder. -/
import Derived.Test.YtkicbabfgahmkaaDoorMac4
import Derived.Test.YtkicbabfgahmkaaDoorPick
import Derived.Test.YtkicbabfgahmkaaDoorOpAd
set_option linter.all false
namespace Go.Proofs.YtkicbabfgahmkaaDoor
open Go.RowKit
theorem resM_cases (a : Ad) : resM a = -1 ∨ ∃ m : Nat, m ≤ 15 ∧ resM a = m ∧ a = known m := by
  unfold resM
  by_cases h : 15 < a.f.toNat
  · left; rw [if_pos h]
  · rw [if_neg h]
    by_cases h2 : a = known a.f.toNat
    · right
      rw [if_pos h2]
      exact ⟨a.f.toNat, by omega, rfl, h2⟩
    · left; rw [if_neg h2]
theorem resM_known (n : Nat) (h : n < 256) : resM (known n) = if n ≤ 15 then (n : Int) else -1 := by
  have e : (known n).f.toNat = n := ofNat_toNat n h
  unfold resM
  rw [e]
  by_cases h1 : n ≤ 15
  · rw [if_pos h1, if_neg (by omega), if_pos rfl]
  · rw [if_neg h1, if_pos (by omega)]
set_option maxRecDepth 100000 in
set_option maxHeartbeats 2000000 in
theorem law_MacReserved (v0 : Value) (a : Ad) (n : Int) (hn : (Lit.int .i64 n).wf = true) (w : World) (hv0 : v0 = .agg a.vals.toArray) (hM : MaxL w) :
    Calls Tryd.prog 4 #[v0, .int .i64 n] w fun e w' => e = .returned (.bool true) ∧ Below w.heap.size w w' := by
  subst hv0
  have H0 := Lib.hid ((St.init w).alloc a.vals 23)
  have HA := Lib.hid (addressed_any _ (hM.ext H0.out.below))
  have HR := Lib.hid (reserved_any a)
  have hz := pickN_lt n 256 (by decide)
  have HP : Hid (∀ W, Calls Tryd.prog 20 #[.int .i64 n, .int .i64 256] W fun e w' => e = .returned (.int .i64 (pickN n 256 : Nat)) ∧ W = w') := Lib.hid (fun W => pick_any n 256 W (by decide) (by decide))
  generalize pickN n 256 = z at *
  have HK := Lib.hid (known_any z hz)
  have hq := reserved_any (known z)
  rw [resM_known z hz] at hq
  have hz2 : (if z ≤ 15 then ((z : Int)) else -1) = z ∨ ((if z ≤ 15 then ((z : Int)) else -1) = -1 ∧ 15 < z) := by
    by_cases h : z ≤ 15
    · left; rw [if_pos h]
    · right; rw [if_neg h]; exact ⟨rfl, by omega⟩
  generalize known z = Z at *
  generalize (if z ≤ 15 then ((z : Int)) else -1) = y at *
  have HQ := Lib.hid hq
  clear hq hM
  have hend : ∀ (w6 : World), Below w.heap.size w w6 → True := fun _ _ => trivial
  clear hend
  obtain hr | ⟨m, hm, hr, ha⟩ := resM_cases a
  · rw [hr] at HR
    clear hr
    go_enter Tryd.func4, Tryd.ntmps4
    go_upto_region 1 with (fail)
    generalize World.alloc _ _ = w1 at *
    go_upto_region 4 with (first
      | ((with_reducible refine HA.out.mono ?_)
         rintro e w2 ⟨rfl, hb2⟩
         have H2 := Lib.hid (H0.out.ext hb2)
         have R2 := Lib.hid (Blk.box (H2.out.at 0 rfl)).range
         clear hb2)
      | (with_reducible refine wpList_load_rng (ty := 23) a.vals (by with_unfolding_all rfl) R2.out Tryd.underlying23 (by with_unfolding_all rfl) (by with_unfolding_all exact info23) ?_)
      | ((with_reducible refine (HR.out _).mono ?_)
         rintro e w3 ⟨rfl, hb3⟩
         have H3 := Lib.hid (H2.out.ext hb3)
         clear hb3))
    refine wp_region_ext (by kernel_rfl) (by kernel_rfl) ?_
    repeat (go_big_quiet_step (fail))
    refine wpQuiet_nil ?_
    rintro w4 ⟨⟨_, hb4⟩, rfl⟩
    try simp only [] at *
    have H4 := Lib.hid (H3.out.ext hb4)
    clear hb4
    obtain hy | ⟨hy, hz3⟩ := hz2
    · have hyz : (y == (z : Int)) = true := by rw [hy]; simp
      have Hy := Lib.hid hy
      clear hy
      go_wp2_with (first
        | ((with_reducible refine (HP.out _).mono ?_)
           rintro e w5 ⟨rfl, rfl⟩
           have H5 := H4)
        | ((with_reducible refine (HK.out _).mono ?_)
           rintro e w6 ⟨rfl, hb6⟩
           have H6 := Lib.hid (H5.out.ext hb6)
           clear hb6)
        | ((with_reducible refine (HQ.out _).mono ?_)
           rintro e w7 ⟨rfl, hb7⟩
           have H7 := Lib.hid (H6.out.ext hb7)
           clear hb7))
      go_ret
      exact ⟨rfl, H7.out.below⟩
    · have hyz : (y == (z : Int)) = false := by rw [hy, beq_eq_false_iff_ne]; omega
      have hy1 : (y == (-1 : Int)) = true := by rw [hy]; rfl
      have hz4 : (15 : Int) < (z : Int) := by omega
      have Hy := Lib.hid hy
      clear hy hz3
      go_wp2_with (first
        | ((with_reducible refine (HP.out _).mono ?_)
           rintro e w5 ⟨rfl, rfl⟩
           have H5 := H4)
        | ((with_reducible refine (HK.out w4).mono ?_)
           rintro e w6 ⟨rfl, hb6⟩
           have H6 := Lib.hid (H5.out.ext hb6)
           clear hb6)
        | ((with_reducible refine (HQ.out w6).mono ?_)
           rintro e w7 ⟨rfl, hb7⟩
           have H7 := Lib.hid (H6.out.ext hb7)
           clear hb7)
        | ((with_reducible refine (HK.out w7).mono ?_)
           rintro e w8 ⟨rfl, hb8⟩
           have H8 := Lib.hid (H7.out.ext hb8)
           clear hb8)
        | ((with_reducible refine (HQ.out w8).mono ?_)
           rintro e w9 ⟨rfl, hb9⟩
           have H9 := Lib.hid (H8.out.ext hb9)
           clear hb9))
      go_ret
      exact ⟨rfl, H9.out.below⟩
  · have HKm := Lib.hid (known_any m (by omega))
    have HGm := Lib.hid (group_known m)
    have hm1 : ¬ (15 : Int) < (m : Int) := by omega
    have hm2 : (0 : Int) ≤ (m : Int) := by omega
    have hm3 : ¬ 15 < m := by omega
    rw [← ha] at HKm HGm
    rw [hr] at HR
    have HN : ∀ W, (binOp .neq 23 (.agg a.vals.toArray) (.agg a.vals.toArray)).run Tryd.prog W = .ok (.bool false) W := fun W => by rw [ad_neq]; simp
    have HE := fun p q W => ad_guard .neq a a p q W
    clear hr ha hm
    go_enter Tryd.func4, Tryd.ntmps4
    go_upto_region 1 with (fail)
    generalize World.alloc _ _ = w1 at *
    go_upto_region 4 with (first
      | ((with_reducible refine HA.out.mono ?_)
         rintro e w2 ⟨rfl, hb2⟩
         have H2 := Lib.hid (H0.out.ext hb2)
         have R2 := Lib.hid (Blk.box (H2.out.at 0 rfl)).range
         clear hb2)
      | (with_reducible refine wpList_load_rng (ty := 23) a.vals (by with_unfolding_all rfl) R2.out Tryd.underlying23 (by with_unfolding_all rfl) (by with_unfolding_all exact info23) ?_)
      | ((with_reducible refine (HR.out _).mono ?_)
         rintro e w3 ⟨rfl, hb3⟩
         have H3 := Lib.hid (H2.out.ext hb3)
         clear hb3))
    have RA := Lib.hid (Blk.box (H3.out.at 0 rfl)).range
    have l0 := (H3.out.at 0 rfl).lt
    have hm4 : decide ((15 : Int) < (m : Int)) = false := by rw [decide_eq_false_iff_not]; omega
    have hm5 : ¬ (15 : Int) < (m : Int) := by omega
    refine wp_region_ext (by kernel_rfl) (by kernel_rfl) ?_
    repeat (go_big_quiet_step (fail))
    repeat (go_big_quiet_step ((go_at_call 18; exact Calls.ext _ (HKm.out _))))
    go_big_quiet_want
    with_reducible refine quiet_load_rng (b := ?b15) (off := ?o15) (ds := ?ds15) a.vals ?hx15 ?hr15 ?hu15 ?hd15 ?hi15 ?hk15
    case hx15 => rfl
    case hr15 => rintro _ ⟨y, rfl⟩; exact rangeAt_below RA.out y.below l0
    case hu15 => exact Tryd.underlying23
    case hd15 => rfl
    case hi15 => exact info23
    go_simp
    go_big_quiet_on
    repeat (go_big_quiet_step (fail))
    go_big_quiet_want
    with_reducible refine quiet_load_rng (b := ?b16) (off := ?o16) (ds := ?ds16) a.vals ?hx16 ?hr16 ?hu16 ?hd16 ?hi16 ?hk16
    case hx16 => rfl
    case hr16 => rintro _ ⟨y, rfl⟩; exact rangeAt_below RA.out y.below l0
    case hu16 => exact Tryd.underlying23
    case hd16 => rfl
    case hi16 => exact info23
    go_simp
    go_big_quiet_on
    repeat (go_big_quiet_step ((go_at_call 19; exact Calls.ext _ (HGm.out _))))
    refine wpQuiet_nil ?_
    rintro w4 ⟨⟨_, hb4⟩, rfl⟩
    try simp only [] at *
    have H4 := Lib.hid (H3.out.ext hb4)
    clear hb4 l0 HN HE
    obtain hy | ⟨hy, hz3⟩ := hz2
    · have hyz : (y == (z : Int)) = true := by rw [hy]; simp
      have Hy := Lib.hid hy
      clear hy
      go_wp2_with (first
        | ((with_reducible refine (HP.out _).mono ?_)
           rintro e w5 ⟨rfl, rfl⟩
           have H5 := H4)
        | ((with_reducible refine (HK.out _).mono ?_)
           rintro e w6 ⟨rfl, hb6⟩
           have H6 := Lib.hid (H5.out.ext hb6)
           clear hb6)
        | ((with_reducible refine (HQ.out _).mono ?_)
           rintro e w7 ⟨rfl, hb7⟩
           have H7 := Lib.hid (H6.out.ext hb7)
           clear hb7))
      go_ret
      exact ⟨rfl, H7.out.below⟩
    · have hyz : (y == (z : Int)) = false := by rw [hy, beq_eq_false_iff_ne]; omega
      have hy1 : (y == (-1 : Int)) = true := by rw [hy]; rfl
      have hz4 : (15 : Int) < (z : Int) := by omega
      have Hy := Lib.hid hy
      clear hy hz3
      go_wp2_with (first
        | ((with_reducible refine (HP.out _).mono ?_)
           rintro e w5 ⟨rfl, rfl⟩
           have H5 := H4)
        | ((with_reducible refine (HK.out w4).mono ?_)
           rintro e w6 ⟨rfl, hb6⟩
           have H6 := Lib.hid (H5.out.ext hb6)
           clear hb6)
        | ((with_reducible refine (HQ.out w6).mono ?_)
           rintro e w7 ⟨rfl, hb7⟩
           have H7 := Lib.hid (H6.out.ext hb7)
           clear hb7)
        | ((with_reducible refine (HK.out w7).mono ?_)
           rintro e w8 ⟨rfl, hb8⟩
           have H8 := Lib.hid (H7.out.ext hb8)
           clear hb8)
        | ((with_reducible refine (HQ.out w8).mono ?_)
           rintro e w9 ⟨rfl, hb9⟩
           have H9 := Lib.hid (H8.out.ext hb9)
           clear hb9))
      go_ret
      exact ⟨rfl, H9.out.below⟩
set_option maxRecDepth 100000 in
set_option maxHeartbeats 4000000 in
theorem law_MacOrder (v0 : Value) (a : Ad) (v1 : Value) (b : Ad) (v2 : Value) (c : Ad) (w : World) (hv0 : v0 = .agg a.vals.toArray) (hv1 : v1 = .agg b.vals.toArray) (hv2 : v2 = .agg c.vals.toArray) (hM : MaxL w) :
    Calls Tryd.prog 5 #[v0, v1, v2] w fun e w' => e = .returned (.bool true) ∧ Below w.heap.size w w' := by
  subst hv0 hv1 hv2
  have H0 := Lib.hid ((St.init w).alloc3 a.vals b.vals c.vals 23 23 23)
  have HA := Lib.hid (addressed_any _ (hM.ext H0.out.below))
  have ho := ad_order a b c
  have HX := Lib.hid (mless_any a b)
  have HY := Lib.hid (mless_any b a)
  have HZ := Lib.hid (mless_any b c)
  have HU := Lib.hid (mless_any a c)
  have HTa := Lib.hid (mtext_any a)
  have HTb := Lib.hid (mtext_any b)
  have HN : ∀ W, (binOp .neq 23 (.agg a.vals.toArray) (.agg b.vals.toArray)).run Tryd.prog W = .ok (.bool (a != b)) W := fun W => by
    rw [ad_neq]
    by_cases h : a = b <;> simp [h]
  have HE := fun p q W => ad_guard .neq a b p q W
  generalize (a != b) = e at *
  generalize a.less b = x at *
  generalize b.less a = y at *
  generalize b.less c = z at *
  generalize a.less c = u at *
  obtain ⟨v, hv⟩ : ∃ v, Op.bytesLess a.text b.text = v := ⟨_, rfl⟩
  rw [hv] at ho
  have Hv := Lib.hid hv
  clear hv hM
  have HO := Lib.hid ho
  clear ho
  go_enter Tryd.func5, Tryd.ntmps5
  go_upto_region 1 with (fail)
  generalize World.alloc (World.alloc (World.alloc _ _) _) _ = w1 at *
  go_upto_region 3 with (first
    | ((with_reducible refine HA.out.mono ?_)
       rintro e w2 ⟨rfl, hb2⟩
       have H2 := Lib.hid (H0.out.ext hb2)
       clear hb2))
  have RC := Lib.hid (Blk.box (H2.out.at 0 rfl)).range
  have RB := Lib.hid (Blk.box (H2.out.at 1 rfl)).range
  have RA := Lib.hid (Blk.box (H2.out.at 2 rfl)).range
  have lC := (H2.out.at 0 rfl).lt
  have lB := (H2.out.at 1 rfl).lt
  have lA := (H2.out.at 2 rfl).lt
  refine wp_region_ext (by kernel_rfl) (by kernel_rfl) ?_
  repeat (go_big_quiet_step (fail))
  go_big_quiet_want
  with_reducible refine quiet_load_rng (b := ?b26) (off := ?o26) (ds := ?ds26) a.vals ?hx26 ?hr26 ?hu26 ?hd26 ?hi26 ?hk26
  case hx26 => rfl
  case hr26 => rintro _ ⟨y, rfl⟩; exact rangeAt_below RA.out y.below lA
  case hu26 => exact Tryd.underlying23
  case hd26 => rfl
  case hi26 => exact info23
  go_simp
  go_big_quiet_on
  repeat (go_big_quiet_step (fail))
  go_big_quiet_want
  with_reducible refine quiet_load_rng (b := ?b27) (off := ?o27) (ds := ?ds27) b.vals ?hx27 ?hr27 ?hu27 ?hd27 ?hi27 ?hk27
  case hx27 => rfl
  case hr27 => rintro _ ⟨y, rfl⟩; exact rangeAt_below RB.out y.below lB
  case hu27 => exact Tryd.underlying23
  case hd27 => rfl
  case hi27 => exact info23
  go_simp
  go_big_quiet_on
  repeat (go_big_quiet_step ((go_at_call 21; exact Calls.ext _ (HX.out _))))
  go_big_quiet_want
  with_reducible refine quiet_load_rng (b := ?b28) (off := ?o28) (ds := ?ds28) b.vals ?hx28 ?hr28 ?hu28 ?hd28 ?hi28 ?hk28
  case hx28 => rfl
  case hr28 => rintro _ ⟨y, rfl⟩; exact rangeAt_below RB.out y.below lB
  case hu28 => exact Tryd.underlying23
  case hd28 => rfl
  case hi28 => exact info23
  go_simp
  go_big_quiet_on
  repeat (go_big_quiet_step (fail))
  go_big_quiet_want
  with_reducible refine quiet_load_rng (b := ?b29) (off := ?o29) (ds := ?ds29) a.vals ?hx29 ?hr29 ?hu29 ?hd29 ?hi29 ?hk29
  case hx29 => rfl
  case hr29 => rintro _ ⟨y, rfl⟩; exact rangeAt_below RA.out y.below lA
  case hu29 => exact Tryd.underlying23
  case hd29 => rfl
  case hi29 => exact info23
  go_simp
  go_big_quiet_on
  repeat (go_big_quiet_step ((go_at_call 21; exact Calls.ext _ (HY.out _))))
  refine wpQuiet_nil ?_
  rintro w3 ⟨⟨_, hb3⟩, rfl⟩
  try simp only [] at *
  have H3 := Lib.hid (H2.out.ext hb3)
  clear hb3 RA RB RC lA lB lC
  -- REGION 4
  have RC := Lib.hid (Blk.box (H3.out.at 0 rfl)).range
  have RB := Lib.hid (Blk.box (H3.out.at 1 rfl)).range
  have RA := Lib.hid (Blk.box (H3.out.at 2 rfl)).range
  have lC := (H3.out.at 0 rfl).lt
  have lB := (H3.out.at 1 rfl).lt
  have lA := (H3.out.at 2 rfl).lt
  go_upto_region 4 with (fail)
  cases x <;> cases y <;> cases e <;> cases v
  all_goals first
    | (exfalso; have h := HO.out; revert h; cases z <;> cases u <;> decide)
    | skip
  all_goals have hv := Hv.out
  all_goals refine wp_region_ext (by kernel_rfl) (by kernel_rfl) ?_
  · clear HX HY HZ HU
    repeat (go_big_quiet_step (fail))
    go_big_quiet_want
    with_reducible refine quiet_load_rng (b := ?b30) (off := ?o30) (ds := ?ds30) a.vals ?hx30 ?hr30 ?hu30 ?hd30 ?hi30 ?hk30
    case hx30 => rfl
    case hr30 => rintro _ ⟨y, rfl⟩; exact rangeAt_below RA.out y.below lA
    case hu30 => exact Tryd.underlying23
    case hd30 => rfl
    case hi30 => exact info23
    go_simp
    go_big_quiet_on
    repeat (go_big_quiet_step (fail))
    go_big_quiet_want
    with_reducible refine quiet_load_rng (b := ?b31) (off := ?o31) (ds := ?ds31) b.vals ?hx31 ?hr31 ?hu31 ?hd31 ?hi31 ?hk31
    case hx31 => rfl
    case hr31 => rintro _ ⟨y, rfl⟩; exact rangeAt_below RB.out y.below lB
    case hu31 => exact Tryd.underlying23
    case hd31 => rfl
    case hi31 => exact info23
    go_simp
    go_big_quiet_on
    repeat (go_big_quiet_step (fail))
    go_big_quiet_want
    with_reducible refine quiet_load_rng (b := ?b32) (off := ?o32) (ds := ?ds32) a.vals ?hx32 ?hr32 ?hu32 ?hd32 ?hi32 ?hk32
    case hx32 => rfl
    case hr32 => rintro _ ⟨y, rfl⟩; exact rangeAt_below RA.out y.below lA
    case hu32 => exact Tryd.underlying23
    case hd32 => rfl
    case hi32 => exact info23
    go_simp
    go_big_quiet_on
    repeat (go_big_quiet_step ((go_at_call 16; exact Calls.ext _ (HTa.out _))))
    repeat (go_big_quiet_step (fail))
    go_big_quiet_want
    with_reducible refine quiet_load_rng (b := ?b33) (off := ?o33) (ds := ?ds33) b.vals ?hx33 ?hr33 ?hu33 ?hd33 ?hi33 ?hk33
    case hx33 => rfl
    case hr33 => rintro _ ⟨y, rfl⟩; exact rangeAt_below RB.out y.below lB
    case hu33 => exact Tryd.underlying23
    case hd33 => rfl
    case hi33 => exact info23
    go_simp
    go_big_quiet_on
    repeat (go_big_quiet_step ((go_at_call 16; exact Calls.ext _ (HTb.out _))))
    repeat (go_big_quiet_step (fail))
    refine wpQuiet_nil ?_
    rintro w4 ⟨⟨_, hb4⟩, rfl⟩
    try simp only [] at *
    go_wp2_with fail
    go_ret
    exact ⟨rfl, H3.out.below.trans (hb4.mono H3.out.below.size)⟩
  · clear HX HY HZ HU
    repeat (go_big_quiet_step (fail))
    go_big_quiet_want
    with_reducible refine quiet_load_rng (b := ?b34) (off := ?o34) (ds := ?ds34) a.vals ?hx34 ?hr34 ?hu34 ?hd34 ?hi34 ?hk34
    case hx34 => rfl
    case hr34 => rintro _ ⟨y, rfl⟩; exact rangeAt_below RA.out y.below lA
    case hu34 => exact Tryd.underlying23
    case hd34 => rfl
    case hi34 => exact info23
    go_simp
    go_big_quiet_on
    repeat (go_big_quiet_step (fail))
    go_big_quiet_want
    with_reducible refine quiet_load_rng (b := ?b35) (off := ?o35) (ds := ?ds35) b.vals ?hx35 ?hr35 ?hu35 ?hd35 ?hi35 ?hk35
    case hx35 => rfl
    case hr35 => rintro _ ⟨y, rfl⟩; exact rangeAt_below RB.out y.below lB
    case hu35 => exact Tryd.underlying23
    case hd35 => rfl
    case hi35 => exact info23
    go_simp
    go_big_quiet_on
    repeat (go_big_quiet_step (fail))
    go_big_quiet_want
    with_reducible refine quiet_load_rng (b := ?b36) (off := ?o36) (ds := ?ds36) a.vals ?hx36 ?hr36 ?hu36 ?hd36 ?hi36 ?hk36
    case hx36 => rfl
    case hr36 => rintro _ ⟨y, rfl⟩; exact rangeAt_below RA.out y.below lA
    case hu36 => exact Tryd.underlying23
    case hd36 => rfl
    case hi36 => exact info23
    go_simp
    go_big_quiet_on
    repeat (go_big_quiet_step ((go_at_call 16; exact Calls.ext _ (HTa.out _))))
    repeat (go_big_quiet_step (fail))
    go_big_quiet_want
    with_reducible refine quiet_load_rng (b := ?b37) (off := ?o37) (ds := ?ds37) b.vals ?hx37 ?hr37 ?hu37 ?hd37 ?hi37 ?hk37
    case hx37 => rfl
    case hr37 => rintro _ ⟨y, rfl⟩; exact rangeAt_below RB.out y.below lB
    case hu37 => exact Tryd.underlying23
    case hd37 => rfl
    case hi37 => exact info23
    go_simp
    go_big_quiet_on
    repeat (go_big_quiet_step ((go_at_call 16; exact Calls.ext _ (HTb.out _))))
    repeat (go_big_quiet_step (fail))
    refine wpQuiet_nil ?_
    rintro w4 ⟨⟨_, hb4⟩, rfl⟩
    try simp only [] at *
    go_wp2_with fail
    go_ret
    exact ⟨rfl, H3.out.below.trans (hb4.mono H3.out.below.size)⟩
  · cases z
    · clear HX HY HU
      repeat (go_big_quiet_step (fail))
      go_big_quiet_want
      with_reducible refine quiet_load_rng (b := ?b38) (off := ?o38) (ds := ?ds38) a.vals ?hx38 ?hr38 ?hu38 ?hd38 ?hi38 ?hk38
      case hx38 => rfl
      case hr38 => rintro _ ⟨y, rfl⟩; exact rangeAt_below RA.out y.below lA
      case hu38 => exact Tryd.underlying23
      case hd38 => rfl
      case hi38 => exact info23
      go_simp
      go_big_quiet_on
      repeat (go_big_quiet_step (fail))
      go_big_quiet_want
      with_reducible refine quiet_load_rng (b := ?b39) (off := ?o39) (ds := ?ds39) b.vals ?hx39 ?hr39 ?hu39 ?hd39 ?hi39 ?hk39
      case hx39 => rfl
      case hr39 => rintro _ ⟨y, rfl⟩; exact rangeAt_below RB.out y.below lB
      case hu39 => exact Tryd.underlying23
      case hd39 => rfl
      case hi39 => exact info23
      go_simp
      go_big_quiet_on
      repeat (go_big_quiet_step (fail))
      go_big_quiet_want
      with_reducible refine quiet_load_rng (b := ?b40) (off := ?o40) (ds := ?ds40) b.vals ?hx40 ?hr40 ?hu40 ?hd40 ?hi40 ?hk40
      case hx40 => rfl
      case hr40 => rintro _ ⟨y, rfl⟩; exact rangeAt_below RB.out y.below lB
      case hu40 => exact Tryd.underlying23
      case hd40 => rfl
      case hi40 => exact info23
      go_simp
      go_big_quiet_on
      repeat (go_big_quiet_step (fail))
      go_big_quiet_want
      with_reducible refine quiet_load_rng (b := ?b41) (off := ?o41) (ds := ?ds41) c.vals ?hx41 ?hr41 ?hu41 ?hd41 ?hi41 ?hk41
      case hx41 => rfl
      case hr41 => rintro _ ⟨y, rfl⟩; exact rangeAt_below RC.out y.below lC
      case hu41 => exact Tryd.underlying23
      case hd41 => rfl
      case hi41 => exact info23
      go_simp
      go_big_quiet_on
      repeat (go_big_quiet_step ((go_at_call 21; exact Calls.ext _ (HZ.out _))))
      repeat (go_big_quiet_step (fail))
      go_big_quiet_want
      with_reducible refine quiet_load_rng (b := ?b42) (off := ?o42) (ds := ?ds42) a.vals ?hx42 ?hr42 ?hu42 ?hd42 ?hi42 ?hk42
      case hx42 => rfl
      case hr42 => rintro _ ⟨y, rfl⟩; exact rangeAt_below RA.out y.below lA
      case hu42 => exact Tryd.underlying23
      case hd42 => rfl
      case hi42 => exact info23
      go_simp
      go_big_quiet_on
      repeat (go_big_quiet_step ((go_at_call 16; exact Calls.ext _ (HTa.out _))))
      repeat (go_big_quiet_step (fail))
      go_big_quiet_want
      with_reducible refine quiet_load_rng (b := ?b43) (off := ?o43) (ds := ?ds43) b.vals ?hx43 ?hr43 ?hu43 ?hd43 ?hi43 ?hk43
      case hx43 => rfl
      case hr43 => rintro _ ⟨y, rfl⟩; exact rangeAt_below RB.out y.below lB
      case hu43 => exact Tryd.underlying23
      case hd43 => rfl
      case hi43 => exact info23
      go_simp
      go_big_quiet_on
      repeat (go_big_quiet_step ((go_at_call 16; exact Calls.ext _ (HTb.out _))))
      repeat (go_big_quiet_step (fail))
      refine wpQuiet_nil ?_
      rintro w4 ⟨⟨_, hb4⟩, rfl⟩
      try simp only [] at *
      go_wp2_with fail
      go_ret
      exact ⟨rfl, H3.out.below.trans (hb4.mono H3.out.below.size)⟩
    · have hu : u = true := by
        have h := HO.out
        revert h
        cases u <;> decide
      subst hu
      clear HX HY
      repeat (go_big_quiet_step (fail))
      go_big_quiet_want
      with_reducible refine quiet_load_rng (b := ?b44) (off := ?o44) (ds := ?ds44) a.vals ?hx44 ?hr44 ?hu44 ?hd44 ?hi44 ?hk44
      case hx44 => rfl
      case hr44 => rintro _ ⟨y, rfl⟩; exact rangeAt_below RA.out y.below lA
      case hu44 => exact Tryd.underlying23
      case hd44 => rfl
      case hi44 => exact info23
      go_simp
      go_big_quiet_on
      repeat (go_big_quiet_step (fail))
      go_big_quiet_want
      with_reducible refine quiet_load_rng (b := ?b45) (off := ?o45) (ds := ?ds45) b.vals ?hx45 ?hr45 ?hu45 ?hd45 ?hi45 ?hk45
      case hx45 => rfl
      case hr45 => rintro _ ⟨y, rfl⟩; exact rangeAt_below RB.out y.below lB
      case hu45 => exact Tryd.underlying23
      case hd45 => rfl
      case hi45 => exact info23
      go_simp
      go_big_quiet_on
      repeat (go_big_quiet_step (fail))
      go_big_quiet_want
      with_reducible refine quiet_load_rng (b := ?b46) (off := ?o46) (ds := ?ds46) b.vals ?hx46 ?hr46 ?hu46 ?hd46 ?hi46 ?hk46
      case hx46 => rfl
      case hr46 => rintro _ ⟨y, rfl⟩; exact rangeAt_below RB.out y.below lB
      case hu46 => exact Tryd.underlying23
      case hd46 => rfl
      case hi46 => exact info23
      go_simp
      go_big_quiet_on
      repeat (go_big_quiet_step (fail))
      go_big_quiet_want
      with_reducible refine quiet_load_rng (b := ?b47) (off := ?o47) (ds := ?ds47) c.vals ?hx47 ?hr47 ?hu47 ?hd47 ?hi47 ?hk47
      case hx47 => rfl
      case hr47 => rintro _ ⟨y, rfl⟩; exact rangeAt_below RC.out y.below lC
      case hu47 => exact Tryd.underlying23
      case hd47 => rfl
      case hi47 => exact info23
      go_simp
      go_big_quiet_on
      repeat (go_big_quiet_step ((go_at_call 21; exact Calls.ext _ (HZ.out _))))
      repeat (go_big_quiet_step (fail))
      go_big_quiet_want
      with_reducible refine quiet_load_rng (b := ?b48) (off := ?o48) (ds := ?ds48) a.vals ?hx48 ?hr48 ?hu48 ?hd48 ?hi48 ?hk48
      case hx48 => rfl
      case hr48 => rintro _ ⟨y, rfl⟩; exact rangeAt_below RA.out y.below lA
      case hu48 => exact Tryd.underlying23
      case hd48 => rfl
      case hi48 => exact info23
      go_simp
      go_big_quiet_on
      repeat (go_big_quiet_step (fail))
      go_big_quiet_want
      with_reducible refine quiet_load_rng (b := ?b49) (off := ?o49) (ds := ?ds49) c.vals ?hx49 ?hr49 ?hu49 ?hd49 ?hi49 ?hk49
      case hx49 => rfl
      case hr49 => rintro _ ⟨y, rfl⟩; exact rangeAt_below RC.out y.below lC
      case hu49 => exact Tryd.underlying23
      case hd49 => rfl
      case hi49 => exact info23
      go_simp
      go_big_quiet_on
      repeat (go_big_quiet_step ((go_at_call 21; exact Calls.ext _ (HU.out _))))
      repeat (go_big_quiet_step (fail))
      go_big_quiet_want
      with_reducible refine quiet_load_rng (b := ?b50) (off := ?o50) (ds := ?ds50) a.vals ?hx50 ?hr50 ?hu50 ?hd50 ?hi50 ?hk50
      case hx50 => rfl
      case hr50 => rintro _ ⟨y, rfl⟩; exact rangeAt_below RA.out y.below lA
      case hu50 => exact Tryd.underlying23
      case hd50 => rfl
      case hi50 => exact info23
      go_simp
      go_big_quiet_on
      repeat (go_big_quiet_step ((go_at_call 16; exact Calls.ext _ (HTa.out _))))
      repeat (go_big_quiet_step (fail))
      go_big_quiet_want
      with_reducible refine quiet_load_rng (b := ?b51) (off := ?o51) (ds := ?ds51) b.vals ?hx51 ?hr51 ?hu51 ?hd51 ?hi51 ?hk51
      case hx51 => rfl
      case hr51 => rintro _ ⟨y, rfl⟩; exact rangeAt_below RB.out y.below lB
      case hu51 => exact Tryd.underlying23
      case hd51 => rfl
      case hi51 => exact info23
      go_simp
      go_big_quiet_on
      repeat (go_big_quiet_step ((go_at_call 16; exact Calls.ext _ (HTb.out _))))
      repeat (go_big_quiet_step (fail))
      refine wpQuiet_nil ?_
      rintro w4 ⟨⟨_, hb4⟩, rfl⟩
      try simp only [] at *
      go_wp2_with fail
      go_ret
      exact ⟨rfl, H3.out.below.trans (hb4.mono H3.out.below.size)⟩
end Go.Proofs.YtkicbabfgahmkaaDoor

/- The laws PrioLine, PrioFirst. (Printed by tools/mknm5.py.) -/
import Derived.Test.YtkicbabfgahmkaaDoorNmA
import Derived.Test.YtkicbabfgahmkaaDoorOpsA
set_option linter.all false
namespace Go.Proofs.YtkicbabfgahmkaaDoor
open Go.RowKit
theorem info71 : (Tryd.prog.info? 71).map (·.size) = some 21 := by kernel_rfl
theorem range_head {w : World} {g : Nat} {L M : List Value} (h : w.rangeAt g 0 (L ++ M)) : w.rangeAt g 0 L := fun j v hv => h j v (by
  have := (List.getElem?_eq_some_iff.1 hv).1
  rw [List.getElem?_append_left this]; exact hv)
set_option maxRecDepth 100000 in
set_option maxHeartbeats 4000000 in
theorem law_PrioLine (v0 : Value) (a : Vec) (v1 : Value) (b : Vec) (v2 : Value) (c : Vec) (w : World) (hv0 : v0 = .agg a.vals.toArray) (hv1 : v1 = .agg b.vals.toArray) (hv2 : v2 = .agg c.vals.toArray) (hV : Vars w) :
    Calls Tryd.prog 11 #[v0, v1, v2] w fun e w' => e = .returned (.bool true) ∧ Below w.heap.size w w' := by
  subst hv0 hv1 hv2
  have H0 := Lib.hid ((St.init w).alloc3 a.vals b.vals c.vals 71 71 71)
  have HA := Lib.hid (named_any _ (hV.ext H0.out.below))
  have ho := vec_line a b c
  have HX := Lib.hid (better_any a b)
  have HY := Lib.hid (better_any b a)
  have HZ := Lib.hid (better_any b c)
  have HU := Lib.hid (better_any a c)
  have HN : ∀ W, (binOp .neq 71 (.agg a.vals.toArray) (.agg b.vals.toArray)).run Tryd.prog W = .ok (.bool (a != b)) W := fun W => by
    rw [vec_neq]
    by_cases h : a = b <;> simp [h]
  have HE := fun p q W => vec_guard .neq a b p q W
  generalize (a != b) = e at *
  generalize better a b = x at *
  generalize better b a = y at *
  generalize better b c = z at *
  generalize better a c = u at *
  have HO := Lib.hid ho
  clear ho hV
  go_enter Tryd.func11, Tryd.ntmps11
  go_upto_region 1 with (fail)
  generalize World.alloc (World.alloc (World.alloc _ _) _) _ = w1 at *
  go_upto_region 3 with (first
    | ((with_reducible refine HA.out.mono ?_)
       rintro e w2 ⟨rfl, hb2⟩
       have H2 := Lib.hid (H0.out.ext hb2)
       clear hb2))
  have RC := Lib.hid (Blk.box (H2.out.at 0 rfl)).range
  have RB := Lib.hid (Blk.box (H2.out.at 1 rfl)).range
  have RA := Lib.hid (Blk.box (H2.out.at 2 rfl)).range
  have lC := (H2.out.at 0 rfl).lt
  have lB := (H2.out.at 1 rfl).lt
  have lA := (H2.out.at 2 rfl).lt
  refine wp_region_ext (by kernel_rfl) (by kernel_rfl) ?_
  repeat (go_big_quiet_step (fail))
  go_big_quiet_want
  with_reducible refine quiet_load_rng (b := ?b2) (off := ?o2) (ds := ?ds2) a.vals ?hx2 ?hr2 ?hu2 ?hd2 ?hi2 ?hk2
  case hx2 => rfl
  case hr2 => rintro _ ⟨y, rfl⟩; exact rangeAt_below RA.out y.below lA
  case hu2 => exact Tryd.underlying71
  case hd2 => rfl
  case hi2 => exact info71
  go_simp
  go_big_quiet_on
  repeat (go_big_quiet_step (fail))
  go_big_quiet_want
  with_reducible refine quiet_load_rng (b := ?b3) (off := ?o3) (ds := ?ds3) b.vals ?hx3 ?hr3 ?hu3 ?hd3 ?hi3 ?hk3
  case hx3 => rfl
  case hr3 => rintro _ ⟨y, rfl⟩; exact rangeAt_below RB.out y.below lB
  case hu3 => exact Tryd.underlying71
  case hd3 => rfl
  case hi3 => exact info71
  go_simp
  go_big_quiet_on
  repeat (go_big_quiet_step ((go_at_call 42; exact Calls.ext _ (HX.out _))))
  go_big_quiet_want
  with_reducible refine quiet_load_rng (b := ?b4) (off := ?o4) (ds := ?ds4) b.vals ?hx4 ?hr4 ?hu4 ?hd4 ?hi4 ?hk4
  case hx4 => rfl
  case hr4 => rintro _ ⟨y, rfl⟩; exact rangeAt_below RB.out y.below lB
  case hu4 => exact Tryd.underlying71
  case hd4 => rfl
  case hi4 => exact info71
  go_simp
  go_big_quiet_on
  repeat (go_big_quiet_step (fail))
  go_big_quiet_want
  with_reducible refine quiet_load_rng (b := ?b5) (off := ?o5) (ds := ?ds5) a.vals ?hx5 ?hr5 ?hu5 ?hd5 ?hi5 ?hk5
  case hx5 => rfl
  case hr5 => rintro _ ⟨y, rfl⟩; exact rangeAt_below RA.out y.below lA
  case hu5 => exact Tryd.underlying71
  case hd5 => rfl
  case hi5 => exact info71
  go_simp
  go_big_quiet_on
  repeat (go_big_quiet_step ((go_at_call 42; exact Calls.ext _ (HY.out _))))
  refine wpQuiet_nil ?_
  rintro w3 ⟨⟨_, hb3⟩, rfl⟩
  try simp only [] at *
  have H3 := Lib.hid (H2.out.ext hb3)
  clear hb3 RA RB RC lA lB lC
  have RC := Lib.hid (Blk.box (H3.out.at 0 rfl)).range
  have RB := Lib.hid (Blk.box (H3.out.at 1 rfl)).range
  have RA := Lib.hid (Blk.box (H3.out.at 2 rfl)).range
  go_upto_region 4 with (fail)
  cases x <;> cases y <;> cases e
  all_goals first
    | (exfalso; have h := HO.out; revert h; cases z <;> cases u <;> decide)
    | skip
  · clear HX HY
    go_wp2_with (first
      | (with_reducible refine wpList_load_rng (ty := 71) a.vals (by with_unfolding_all rfl) RA.out Tryd.underlying71 (by with_unfolding_all rfl) (by with_unfolding_all exact info71) ?_)
      | (with_reducible refine wpList_load_rng (ty := 71) b.vals (by with_unfolding_all rfl) RB.out Tryd.underlying71 (by with_unfolding_all rfl) (by with_unfolding_all exact info71) ?_))
    go_ret
    exact ⟨rfl, H3.out.below⟩
  · clear HX HY
    go_wp2_with (first
      | (with_reducible refine wpList_load_rng (ty := 71) a.vals (by with_unfolding_all rfl) RA.out Tryd.underlying71 (by with_unfolding_all rfl) (by with_unfolding_all exact info71) ?_)
      | (with_reducible refine wpList_load_rng (ty := 71) b.vals (by with_unfolding_all rfl) RB.out Tryd.underlying71 (by with_unfolding_all rfl) (by with_unfolding_all exact info71) ?_))
    go_ret
    exact ⟨rfl, H3.out.below⟩
  · cases z
    · clear HX HY
      go_wp2_with (first
        | (with_reducible refine wpList_load_rng (ty := 71) a.vals (by with_unfolding_all rfl) RA.out Tryd.underlying71 (by with_unfolding_all rfl) (by with_unfolding_all exact info71) ?_)
        | (with_reducible refine wpList_load_rng (ty := 71) b.vals (by with_unfolding_all rfl) RB.out Tryd.underlying71 (by with_unfolding_all rfl) (by with_unfolding_all exact info71) ?_)
        | (with_reducible refine wpList_load_rngG (ty := 71) b.vals (by with_unfolding_all rfl) (by with_unfolding_all rfl) RB.out Tryd.underlying71 (by with_unfolding_all rfl) (by with_unfolding_all exact info71) ?_)
        | (with_reducible refine wpList_load_rngG (ty := 71) c.vals (by with_unfolding_all rfl) (by with_unfolding_all rfl) RC.out Tryd.underlying71 (by with_unfolding_all rfl) (by with_unfolding_all exact info71) ?_)
        | ((with_reducible refine (HZ.out _).mono ?_)
           rintro e w4 ⟨rfl, hb4⟩
           have H4 := Lib.hid (H3.out.ext hb4)
           have RC4 := Lib.hid (Blk.box (H4.out.at 0 rfl)).range
           have RA4 := Lib.hid (Blk.box (H4.out.at 2 rfl)).range
           clear hb4))
      go_ret
      exact ⟨rfl, H4.out.below⟩
    · have hu : u = true := by
        have h := HO.out
        revert h
        cases u <;> decide
      subst hu
      clear HX HY
      go_wp2_with (first
        | (with_reducible refine wpList_load_rng (ty := 71) a.vals (by with_unfolding_all rfl) RA.out Tryd.underlying71 (by with_unfolding_all rfl) (by with_unfolding_all exact info71) ?_)
        | (with_reducible refine wpList_load_rng (ty := 71) b.vals (by with_unfolding_all rfl) RB.out Tryd.underlying71 (by with_unfolding_all rfl) (by with_unfolding_all exact info71) ?_)
        | (with_reducible refine wpList_load_rngG (ty := 71) b.vals (by with_unfolding_all rfl) (by with_unfolding_all rfl) RB.out Tryd.underlying71 (by with_unfolding_all rfl) (by with_unfolding_all exact info71) ?_)
        | (with_reducible refine wpList_load_rngG (ty := 71) c.vals (by with_unfolding_all rfl) (by with_unfolding_all rfl) RC.out Tryd.underlying71 (by with_unfolding_all rfl) (by with_unfolding_all exact info71) ?_)
        | ((with_reducible refine (HZ.out _).mono ?_)
           rintro e w4 ⟨rfl, hb4⟩
           have H4 := Lib.hid (H3.out.ext hb4)
           have RC4 := Lib.hid (Blk.box (H4.out.at 0 rfl)).range
           have RA4 := Lib.hid (Blk.box (H4.out.at 2 rfl)).range
           clear hb4)
        | (with_reducible refine wpList_load_rngG (ty := 71) a.vals (by with_unfolding_all rfl) (by with_unfolding_all rfl) RA4.out Tryd.underlying71 (by with_unfolding_all rfl) (by with_unfolding_all exact info71) ?_)
        | (with_reducible refine wpList_load_rngG (ty := 71) c.vals (by with_unfolding_all rfl) (by with_unfolding_all rfl) RC4.out Tryd.underlying71 (by with_unfolding_all rfl) (by with_unfolding_all exact info71) ?_)
        | ((with_reducible refine (HU.out _).mono ?_)
           rintro e w5 ⟨rfl, hb5⟩
           have H5 := Lib.hid (H4.out.ext hb5)
           clear hb5))
      go_ret
      exact ⟨rfl, H5.out.below⟩
set_option maxRecDepth 100000 in
set_option maxHeartbeats 4000000 in
theorem law_PrioFirst (v0 : Value) (a : Vec) (v1 : Value) (b : Vec) (w : World) (hv0 : v0 = .agg a.vals.toArray) (hv1 : v1 = .agg b.vals.toArray) (hV : Vars w) :
    Calls Tryd.prog 12 #[v0, v1] w fun e w' => e = .returned (.bool true) ∧ Below w.heap.size w w' := by
  subst hv0 hv1
  have H0 := Lib.hid ((St.init w).alloc2 a.vals b.vals 71 71)
  have HA := Lib.hid (named_any _ (hV.ext H0.out.below))
  have HX := Lib.hid (better_any a b)
  have HL := Lib.hid (prLess_any a.root b.root)
  have hE := fun W => br_eq a.root b.root W
  have HG := fun p q W => br_guard .eql a.root b.root p q W
  have Hr : Hid (a.root ≠ b.root → better a b = brLess a.root b.root) := Lib.hid (fun h => better_root h)
  have Hc : Hid (a.root = b.root → a.cost ≠ b.cost → better a b = decide (a.cost < b.cost)) := Lib.hid (fun h h2 => better_cost h h2)
  clear hV
  generalize better a b = x at *
  generalize brLess a.root b.root = q at *
  obtain ⟨z, hz⟩ : ∃ z, decide (a.root = b.root) = z := ⟨_, rfl⟩
  rw [hz] at hE
  have Hz := Lib.hid hz
  clear hz
  go_enter Tryd.func12, Tryd.ntmps12
  go_upto_region 1 with (fail)
  generalize World.alloc (World.alloc _ _) _ = w1 at *
  go_upto_region 3 with (first
    | ((with_reducible refine HA.out.mono ?_)
       rintro e w2 ⟨rfl, hb2⟩
       have H2 := Lib.hid (H0.out.ext hb2)
       clear hb2))
  have RB := Lib.hid (Blk.box (H2.out.at 0 rfl)).range
  have RA := Lib.hid (Blk.box (H2.out.at 1 rfl)).range
  have RBr := Lib.hid (range_head RB.out)
  have RAr := Lib.hid (range_head RA.out)
  have ca : w2.cell? ⟨w.heap.size, 8, none⟩ = some (.int .i64 a.cost) := (Blk.box (H2.out.at 1 rfl)).cell 8
  have cb : w2.cell? ⟨w.heap.size + 1, 8, none⟩ = some (.int .i64 b.cost) := (Blk.box (H2.out.at 0 rfl)).cell 8
  have lB := (H2.out.at 0 rfl).lt
  have lA := (H2.out.at 1 rfl).lt
  cases z
  · have hxq : x = q := Hr.out (of_decide_eq_false Hz.out)
    subst hxq
    go_upto_region 5 with (first
      | (with_reducible refine wpList_load_rng (ty := 53) a.root.vals (by with_unfolding_all rfl) RAr.out Tryd.underlying53 (by with_unfolding_all rfl) (by with_unfolding_all exact info53) ?_)
      | (with_reducible refine wpList_load_rng (ty := 53) b.root.vals (by with_unfolding_all rfl) RBr.out Tryd.underlying53 (by with_unfolding_all rfl) (by with_unfolding_all exact info53) ?_))
    refine wp_region_ext (by kernel_rfl) (by kernel_rfl) ?_
    repeat (go_big_quiet_step (fail))
    go_big_quiet_want
    with_reducible refine quiet_load_rng (b := ?b26) (off := ?o26) (ds := ?ds26) a.vals ?hx26 ?hr26 ?hu26 ?hd26 ?hi26 ?hk26
    case hx26 => rfl
    case hr26 => rintro _ ⟨y, rfl⟩; exact rangeAt_below RA.out y.below lA
    case hu26 => exact Tryd.underlying71
    case hd26 => rfl
    case hi26 => exact info71
    go_simp
    go_big_quiet_on
    repeat (go_big_quiet_step (fail))
    go_big_quiet_want
    with_reducible refine quiet_load_rng (b := ?b27) (off := ?o27) (ds := ?ds27) b.vals ?hx27 ?hr27 ?hu27 ?hd27 ?hi27 ?hk27
    case hx27 => rfl
    case hr27 => rintro _ ⟨y, rfl⟩; exact rangeAt_below RB.out y.below lB
    case hu27 => exact Tryd.underlying71
    case hd27 => rfl
    case hi27 => exact info71
    go_simp
    go_big_quiet_on
    repeat (go_big_quiet_step ((go_at_call 42; exact Calls.ext _ (HX.out _))))
    go_big_quiet_want
    with_reducible refine quiet_load_rng (b := ?b28) (off := ?o28) (ds := ?ds28) a.root.vals ?hx28 ?hr28 ?hu28 ?hd28 ?hi28 ?hk28
    case hx28 => rfl
    case hr28 => rintro _ ⟨y, rfl⟩; exact rangeAt_below RAr.out y.below lA
    case hu28 => exact Tryd.underlying53
    case hd28 => rfl
    case hi28 => exact info53
    go_simp
    go_big_quiet_on
    repeat (go_big_quiet_step (fail))
    go_big_quiet_want
    with_reducible refine quiet_load_rng (b := ?b29) (off := ?o29) (ds := ?ds29) b.root.vals ?hx29 ?hr29 ?hu29 ?hd29 ?hi29 ?hk29
    case hx29 => rfl
    case hr29 => rintro _ ⟨y, rfl⟩; exact rangeAt_below RBr.out y.below lB
    case hu29 => exact Tryd.underlying53
    case hd29 => rfl
    case hi29 => exact info53
    go_simp
    go_big_quiet_on
    repeat (go_big_quiet_step ((go_at_call 41; exact Calls.ext _ (HL.out _))))
    refine wpQuiet_nil ?_
    rintro w4 ⟨⟨_, hb4⟩, rfl⟩
    try simp only [] at *
    go_wp2_with fail
    go_ret
    exact ⟨by simp, H2.out.below.trans (hb4.mono H2.out.below.size)⟩
  · have hr : a.root = b.root := of_decide_eq_true Hz.out
    have Hrr := Lib.hid hr
    clear hr
    by_cases hco : a.cost = b.cost
    · have hco2 : (a.cost == b.cost) = true := by simpa using hco
      have Hco := Lib.hid hco
      clear hco
      go_upto_region 4 with (first
        | (with_reducible refine wpList_load_rng (ty := 53) a.root.vals (by with_unfolding_all rfl) RAr.out Tryd.underlying53 (by with_unfolding_all rfl) (by with_unfolding_all exact info53) ?_)
        | (with_reducible refine wpList_load_rng (ty := 53) b.root.vals (by with_unfolding_all rfl) RBr.out Tryd.underlying53 (by with_unfolding_all rfl) (by with_unfolding_all exact info53) ?_))
      refine wp_region_ext (by kernel_rfl) (by kernel_rfl) ?_
      repeat (go_big_quiet_step (fail))
      refine wpQuiet_nil ?_
      rintro w4 ⟨⟨_, hb4⟩, rfl⟩
      try simp only [] at *
      go_wp2_with fail
      go_ret
      exact ⟨rfl, H2.out.below.trans (hb4.mono H2.out.below.size)⟩
    · have hco2 : (a.cost == b.cost) = false := by simpa using hco
      have hx := Hc.out Hrr.out hco
      have Hx := Lib.hid hx
      have Hco := Lib.hid hco
      clear hco hx
      go_upto_region 4 with (first
        | (with_reducible refine wpList_load_rng (ty := 53) a.root.vals (by with_unfolding_all rfl) RAr.out Tryd.underlying53 (by with_unfolding_all rfl) (by with_unfolding_all exact info53) ?_)
        | (with_reducible refine wpList_load_rng (ty := 53) b.root.vals (by with_unfolding_all rfl) RBr.out Tryd.underlying53 (by with_unfolding_all rfl) (by with_unfolding_all exact info53) ?_))
      refine wp_region_ext (by kernel_rfl) (by kernel_rfl) ?_
      repeat (go_big_quiet_step (fail))
      go_big_quiet_want
      with_reducible refine quiet_load_rng (b := ?b34) (off := ?o34) (ds := ?ds34) a.vals ?hx34 ?hr34 ?hu34 ?hd34 ?hi34 ?hk34
      case hx34 => rfl
      case hr34 => rintro _ ⟨y, rfl⟩; exact rangeAt_below RA.out y.below lA
      case hu34 => exact Tryd.underlying71
      case hd34 => rfl
      case hi34 => exact info71
      go_simp
      go_big_quiet_on
      repeat (go_big_quiet_step (fail))
      go_big_quiet_want
      with_reducible refine quiet_load_rng (b := ?b35) (off := ?o35) (ds := ?ds35) b.vals ?hx35 ?hr35 ?hu35 ?hd35 ?hi35 ?hk35
      case hx35 => rfl
      case hr35 => rintro _ ⟨y, rfl⟩; exact rangeAt_below RB.out y.below lB
      case hu35 => exact Tryd.underlying71
      case hd35 => rfl
      case hi35 => exact info71
      go_simp
      go_big_quiet_on
      repeat (go_big_quiet_step ((go_at_call 42; exact Calls.ext _ (HX.out _))))
      refine wpQuiet_nil ?_
      rintro w4 ⟨⟨_, hb4⟩, rfl⟩
      try simp only [] at *
      go_wp2_with fail
      go_ret
      exact ⟨by rw [Hx.out]; simp, H2.out.below.trans (hb4.mono H2.out.below.size)⟩
end Go.Proofs.YtkicbabfgahmkaaDoor

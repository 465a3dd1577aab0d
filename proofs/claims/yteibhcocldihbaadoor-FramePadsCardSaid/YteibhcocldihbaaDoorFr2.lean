/- frame.Right. (Printed by tools/mkfr2.py.) -/
import Derived.Test.YteibhcocldihbaaDoorFr1
set_option linter.all false
namespace Go.Proofs.YteibhcocldihbaaDoor
open Go.RowKit
set_option maxRecDepth 100000 in
set_option maxHeartbeats 20000000 in
theorem frRight_any (f : Fu) (A : Option Addr) (cap : Nat) (w : World) (hn : f.tags.length ≤ 100000) (hr : SlRow w w.heap.size 4 A (f.tags.map Tk.vals)) :
    Calls Tryd.prog 27 #[.agg (f.vals (.slice A f.tags.length cap)).toArray] w fun e w' => e = .returned (.bool f.okB) ∧ Below w.heap.size w w' := by
  have hff : ∀ (args : Array Value) (W : World), (callFunc 74 args).run Tryd.prog W = .ok (.enter 74 args) W := fun args W => by kernel_rfl
  have hff2 : ∀ (args : Array Value) (W : World), (callFunc 75 args).run Tryd.prog W = .ok (.enter 75 args) W := fun args W => by kernel_rfl
  have hS := fun W (h : Below w.heap.size w W) => tkStack_any f.tags A cap W hn ((hr.below h (Nat.le_refl _)).more h.size)
  have hH := fun W => head_any f A cap W hn
  have hH14 : f.head = 14 + 4 * f.tags.length + f.extra := rfl
  have hex : f.extra ≤ 8 := by unfold Fu.extra; split; decide; split; decide; decide
  obtain ⟨OK, hOK⟩ : ∃ b, f.okB = b := ⟨_, rfl⟩
  rw [hOK]
  have HOK : Hid (OK = (stackB f.tags && (decide (f.body.length ≤ 2000) && (decide (f.head + f.body.length ≤ 2000) && f.kindB)))) := Lib.hid (by rw [← hOK]; rfl)
  clear hOK
  have HKB : Hid (f.kindB = Fu.kindB f) := Lib.hid rfl
  have HSZ : Hid (f.size = f.extra + f.body.length) := Lib.hid rfl
  have H0 := Lib.hid ((St.init w).alloc (f.vals (.slice A f.tags.length cap)) 57)
  obtain ⟨sb, hsb⟩ : ∃ b, stackB f.tags = b := ⟨_, rfl⟩
  rw [hsb] at hS HOK
  have HS := Lib.hid hS
  have HH := Lib.hid hH
  clear hS hH hsb hr
  obtain ⟨fv, hfv⟩ : ∃ fv, f.vals (.slice A f.tags.length cap) = fv := ⟨_, rfl⟩
  have Hfv := Lib.hid hfv
  have info57 : (Tryd.prog.info? 57).map (·.size) = some fv.length := by rw [← hfv]; exact info57
  have HF : Hid (∀ W, St w.heap.size w W [bk w.heap.size 57 fv] → FuIn W w.heap.size f (.slice A f.tags.length cap)) := Lib.hid (fun W h => by
    rw [← hfv] at h
    exact fu_in (Blk.box (h.at 0 rfl)))
  rw [hfv] at H0 HH
  rw [hfv]
  clear hfv
  have hl0 : w.heap.size < (w.alloc (.cells fv.toArray 57)).heap.size := by simp
  obtain ⟨n, hnn⟩ : ∃ n, f.tags.length = n := ⟨_, rfl⟩
  rw [hnn] at hn hH14 HS HF
  clear hnn
  go_enter Tryd.func27, Tryd.ntmps27
  go_upto_region 1 with (fail)
  generalize World.alloc _ _ = W0 at *
  have I0 := HF.out _ H0.out
  have c12 := I0.tags
  have c20 := I0.body
  have R0 := Lib.hid (Blk.box (H0.out.at 0 rfl)).range
  have HSc : Hid (∀ W, Below W0.heap.size W0 W → Calls Tryd.prog 73 #[.slice A n cap] W fun e w' => e = .returned (.bool sb) ∧ Below W.heap.size W w') := Lib.hid (fun W h => HS.out W (H0.out.below.trans (h.mono H0.out.below.size)))
  have HHc : Hid (∀ W, Calls Tryd.prog 30 #[.agg fv.toArray] W fun e w' => e = .returned (.int .i64 (f.head : Int)) ∧ Below W.heap.size W w') := Lib.hid (fun W => HH.out W)
  clear I0 HS HH
  generalize hfb : f.body = fb at *
  obtain ⟨hd, hhd⟩ : ∃ h, f.head = h := ⟨_, rfl⟩
  rw [hhd] at HHc hH14 HOK
  cases sb
  ·
    refine wp_region_ext (by kernel_rfl) (by kernel_rfl) ?_
    repeat (go_big_quiet_step ((first
      | (go_at_call 73; exact Calls.ext _ (HSc.out _ (Ext.below _)))
      | (go_at_call 30; exact Calls.ext _ (HHc.out _)))))
    refine wpQuiet_nil ?_
    rintro w3 ⟨⟨_, hb3⟩, rfl⟩
    try simp only [] at *
    go_wp2_with fail
    go_ret
    exact ⟨by rw [HOK.out]; simp, (H0.out.ext hb3).below⟩
  by_cases hB : fb.length ≤ 2000
  rotate_left
  · have hB' : ¬ (fb.length : Int) ≤ 2000 := by omega
    have hB2 : (2000 : Int) < (fb.length : Int) := by omega
    refine wp_region_ext (by kernel_rfl) (by kernel_rfl) ?_
    repeat (go_big_quiet_step ((first
      | (go_at_call 73; exact Calls.ext _ (HSc.out _ (Ext.below _)))
      | (go_at_call 30; exact Calls.ext _ (HHc.out _)))))
    refine wpQuiet_nil ?_
    rintro w3 ⟨⟨_, hb3⟩, rfl⟩
    try simp only [] at *
    go_wp2_with fail
    go_ret
    exact ⟨by rw [HOK.out]; rw [decide_eq_false hB]; simp, (H0.out.ext hb3).below⟩
  have hB2 : ¬ (2000 : Int) < (fb.length : Int) := by omega
  have hBl : (fb.length : Int) ≤ 2000 := by omega
  by_cases hT : hd + fb.length ≤ 2000
  rotate_left
  · have hT2 : (2000 : Int) < (hd : Int) + (fb.length : Int) := by omega
    refine wp_region_ext (by kernel_rfl) (by kernel_rfl) ?_
    repeat (go_big_quiet_step ((first
      | (go_at_call 73; exact Calls.ext _ (HSc.out _ (Ext.below _)))
      | (go_at_call 30; exact Calls.ext _ (HHc.out _)))))
    go_big_quiet_want
    with_reducible refine quiet_load_rng (b := ?b1) (off := ?o1) (ds := ?ds1) fv ?hx1 ?hr1 ?hu1 ?hd1 ?hi1 ?hk1
    case hx1 => rfl
    case hr1 => rintro _ ⟨y, rfl⟩; exact rangeAt_below R0.out y.below hl0
    case hu1 => exact Tryd.underlying57
    case hd1 => rfl
    case hi1 => exact info57
    go_simp
    go_big_quiet_on
    repeat (go_big_quiet_step ((first
      | (go_at_call 73; exact Calls.ext _ (HSc.out _ (Ext.below _)))
      | (go_at_call 30; exact Calls.ext _ (HHc.out _)))))
    refine wpQuiet_nil ?_
    rintro w3 ⟨⟨_, hb3⟩, rfl⟩
    try simp only [] at *
    go_wp2_with fail
    go_ret
    exact ⟨by rw [HOK.out]; rw [decide_eq_false hT]; simp, (H0.out.ext hb3).below⟩
  have hT2 : ¬ (2000 : Int) < (hd : Int) + (fb.length : Int) := by omega
  refine wp_region_ext (by kernel_rfl) (by kernel_rfl) ?_
  repeat (go_big_quiet_step ((first
    | (go_at_call 73; exact Calls.ext _ (HSc.out _ (Ext.below _)))
    | (go_at_call 30; exact Calls.ext _ (HHc.out _)))))
  go_big_quiet_want
  with_reducible refine quiet_load_rng (b := ?b2) (off := ?o2) (ds := ?ds2) fv ?hx2 ?hr2 ?hu2 ?hd2 ?hi2 ?hk2
  case hx2 => rfl
  case hr2 => rintro _ ⟨y, rfl⟩; exact rangeAt_below R0.out y.below hl0
  case hu2 => exact Tryd.underlying57
  case hd2 => rfl
  case hi2 => exact info57
  go_simp
  go_big_quiet_on
  repeat (go_big_quiet_step ((first
    | (go_at_call 73; exact Calls.ext _ (HSc.out _ (Ext.below _)))
    | (go_at_call 30; exact Calls.ext _ (HHc.out _)))))
  refine wpQuiet_nil ?_
  rintro w3 ⟨⟨_, hb3⟩, rfl⟩
  try simp only [] at *
  have H3 := Lib.hid (H0.out.ext hb3)
  have I3 := HF.out _ H3.out
  have d12 := I3.tags
  have d20 := I3.body
  rw [hfb] at d20
  have R3 := Lib.hid (Blk.box (H3.out.at 0 rfl)).range
  have l3 : w.heap.size < w3.heap.size := (H3.out.at 0 rfl).lt
  clear I3 c12 c20 R0 hb3 HSc hT2 hB2
  go_upto_region 4 with (fail)
  refine wp_region_ext (by kernel_rfl) (by kernel_rfl) ?_
  repeat (go_big_quiet_step ((first
    | (go_at_call 73; exact Calls.ext _ (HSc.out _ (Ext.below _)))
    | (go_at_call 30; exact Calls.ext _ (HHc.out _)))))
  go_big_quiet_want
  with_reducible refine quiet_load_rng (b := ?b3) (off := ?o3) (ds := ?ds3) fv ?hx3 ?hr3 ?hu3 ?hd3 ?hi3 ?hk3
  case hx3 => rfl
  case hr3 => rintro _ ⟨y, rfl⟩; exact rangeAt_below R3.out y.below l3
  case hu3 => exact Tryd.underlying57
  case hd3 => rfl
  case hi3 => exact info57
  go_simp
  go_big_quiet_on
  repeat (go_big_quiet_step ((first
    | (go_at_call 73; exact Calls.ext _ (HSc.out _ (Ext.below _)))
    | (go_at_call 30; exact Calls.ext _ (HHc.out _)))))
  refine wpQuiet_nil ?_
  rintro w5 ⟨⟨_, hb5⟩, rfl⟩
  try simp only [] at *
  have H5 := Lib.hid (H3.out.ext hb5)
  have I5 := HF.out _ H5.out
  clear hb5 R3 H3 HHc d12 d20 H0
  obtain ⟨k13, k14, k15, k16, k17, k18, k19⟩ : w5.cell? ⟨w.heap.size, 13, none⟩ = some (.int .i64 f.kind) ∧ w5.cell? ⟨w.heap.size, 14, none⟩ = some (.int .i64 f.typ) ∧ w5.cell? ⟨w.heap.size, 15, none⟩ = some (.int .i64 f.dsap) ∧ w5.cell? ⟨w.heap.size, 16, none⟩ = some (.int .i64 f.ssap) ∧ w5.cell? ⟨w.heap.size, 17, none⟩ = some (.int .i64 f.ctl) ∧ w5.cell? ⟨w.heap.size, 18, none⟩ = some (.int .i64 f.oui) ∧ w5.cell? ⟨w.heap.size, 19, none⟩ = some (.int .i64 f.pid) := ⟨I5.kind, I5.typ, I5.dsap, I5.ssap, I5.ctl, I5.oui, I5.pid⟩
  clear I5 HF
  have HOK1 : Hid (OK = f.kindB) := Lib.hid (by rw [HOK.out, decide_eq_true hB, decide_eq_true hT]; simp)
  have HT0 : Hid (Calls Tryd.prog 74 #[.int .i64 0, .int .i64 0, .int .i64 0, .pointer (some ⟨w.heap.size, 0, none⟩)] w5 fun e w' => e = .returned (.bool (f.three 0 0 0)) ∧ w' = w5) := Lib.hid (three_any _ _ _ _ 0 0 0 w5 k15 k16 k17)
  have HT1 : Hid (Calls Tryd.prog 74 #[.int .i64 170, .int .i64 170, .int .i64 3, .pointer (some ⟨w.heap.size, 0, none⟩)] w5 fun e w' => e = .returned (.bool (f.three 170 170 3)) ∧ w' = w5) := Lib.hid (three_any _ _ _ _ 170 170 3 w5 k15 k16 k17)
  have HW : Hid (∀ x, Calls Tryd.prog 75 #[.int .i64 x] w5 fun e w' => e = .returned (.bool (decide (0 ≤ x) && decide (x ≤ 255))) ∧ w' = w5) := Lib.hid (fun x => within_any x w5)
  clear HOK hT hB HKB hff hff2
  have hsz : f.size = f.extra + fb.length := HSZ.out
  obtain ⟨sz, hsv⟩ : ∃ sz, f.size = sz := ⟨_, rfl⟩
  have HSV := Lib.hid hsv
  have hsw : 14 + 4 * (n : Int) + (f.extra : Int) - 14 - 4 * (n : Int) + (fb.length : Int) = (sz : Int) := by omega
  clear HSZ hfb hsv hsz
  by_cases e1 : f.kind = 1
  · have hk1 : f.kindB = (decide (1536 ≤ f.typ) && (decide (f.typ ≤ 65535) && (decide (f.typ ≠ 33024) && (decide (f.typ ≠ 34984) && (f.three 0 0 0 && (decide (f.oui = 0) && decide (f.pid = 0))))))) := by unfold Fu.kindB; rw [if_pos e1]
    have HV := Lib.hid (HOK1.out.trans hk1)
    clear HOK1
    rw [e1] at k13
    clear hk1 e1 HT1 HW
    generalize f.typ = ty at *
    generalize f.oui = ou at *
    generalize f.pid = pi at *
    generalize f.three 0 0 0 = th at *
    by_cases h0 : 1536 ≤ ty
    rotate_left
    ·
      go_wp2_with (first
        | ((with_reducible refine HT0.out.mono ?_)
           rintro e w6 ⟨rfl, rfl⟩
           skip))
      go_ret
      exact ⟨by rw [HV.out]; simp [*] <;> intros <;> omega, H5.out.below⟩
    by_cases h1 : ty ≤ 65535
    rotate_left
    ·
      go_wp2_with (first
        | ((with_reducible refine HT0.out.mono ?_)
           rintro e w6 ⟨rfl, rfl⟩
           skip))
      go_ret
      exact ⟨by rw [HV.out]; simp [*] <;> intros <;> omega, H5.out.below⟩
    by_cases h2 : ty ≠ 33024
    rotate_left
    ·
      have g2 : (ty != 33024) = false := by have := Decidable.byContradiction h2; simp [this]
      go_wp2_with (first
        | ((with_reducible refine HT0.out.mono ?_)
           rintro e w6 ⟨rfl, rfl⟩
           skip))
      go_ret
      exact ⟨by rw [HV.out]; simp [*] <;> intros <;> omega, H5.out.below⟩
    have g2 : (ty != 33024) = true := by simp [h2]
    by_cases h3 : ty ≠ 34984
    rotate_left
    ·
      have g3 : (ty != 34984) = false := by have := Decidable.byContradiction h3; simp [this]
      go_wp2_with (first
        | ((with_reducible refine HT0.out.mono ?_)
           rintro e w6 ⟨rfl, rfl⟩
           skip))
      go_ret
      exact ⟨by rw [HV.out]; simp [*] <;> intros <;> omega, H5.out.below⟩
    have g3 : (ty != 34984) = true := by simp [h3]
    cases th
    ·
      go_wp2_with (first
        | ((with_reducible refine HT0.out.mono ?_)
           rintro e w6 ⟨rfl, rfl⟩
           skip))
      go_ret
      exact ⟨by rw [HV.out]; simp [*] <;> intros <;> omega, H5.out.below⟩
    by_cases h5 : ou = 0
    rotate_left
    ·
      have g5 : (ou == 0) = false := by simp [h5]
      go_wp2_with (first
        | ((with_reducible refine HT0.out.mono ?_)
           rintro e w6 ⟨rfl, rfl⟩
           skip))
      go_ret
      exact ⟨by rw [HV.out]; simp [*] <;> intros <;> omega, H5.out.below⟩
    have g5 : (ou == 0) = true := by simp [h5]
    by_cases h6 : pi = 0
    rotate_left
    ·
      have g6 : (pi == 0) = false := by simp [h6]
      go_wp2_with (first
        | ((with_reducible refine HT0.out.mono ?_)
           rintro e w6 ⟨rfl, rfl⟩
           skip))
      go_ret
      exact ⟨by rw [HV.out]; simp [*] <;> intros <;> omega, H5.out.below⟩
    have g6 : (pi == 0) = true := by simp [h6]
    go_wp2_with (first
      | ((with_reducible refine HT0.out.mono ?_)
         rintro e w6 ⟨rfl, rfl⟩
         skip))
    go_ret
    exact ⟨by rw [HV.out]; simp [*] <;> intros <;> omega, H5.out.below⟩
  by_cases e2 : f.kind = 2
  · have hk1 : f.kindB = (decide (f.typ = 0) && ((decide (0 ≤ f.dsap) && decide (f.dsap ≤ 255)) && ((decide (0 ≤ f.ssap) && decide (f.ssap ≤ 255)) && ((decide (0 ≤ f.ctl) && decide (f.ctl ≤ 255)) && (!f.three 170 170 3 && (decide (f.oui = 0) && (decide (f.pid = 0) && decide (f.size ≤ 1500)))))))) := by unfold Fu.kindB; rw [if_neg e1, if_pos e2]
    have HV := Lib.hid (HOK1.out.trans hk1)
    clear HOK1
    rw [e2] at k13
    have HW1 := Lib.hid (HW.out f.dsap)
    have HW2 := Lib.hid (HW.out f.ssap)
    have HW3 := Lib.hid (HW.out f.ctl)
    clear hk1 e1 e2 HT0 HW
    rw [HSV.out] at HV
    clear HSV
    generalize f.typ = ty at *
    generalize f.oui = ou at *
    generalize f.pid = pi at *
    generalize f.three 170 170 3 = th at *
    generalize (decide (0 ≤ f.dsap) && decide (f.dsap ≤ 255)) = d1 at *
    generalize (decide (0 ≤ f.ssap) && decide (f.ssap ≤ 255)) = d2 at *
    generalize (decide (0 ≤ f.ctl) && decide (f.ctl ≤ 255)) = d3 at *
    generalize f.dsap = ds at *
    generalize f.ssap = ss at *
    generalize f.ctl = ct at *
    by_cases h0 : ty = 0
    rotate_left
    ·
      have g0 : (ty == 0) = false := by simp [h0]
      go_wp2_with (first
        | ((with_reducible refine HT1.out.mono ?_)
           rintro e w6 ⟨rfl, rfl⟩
           skip)
        | ((with_reducible refine HW1.out.mono ?_)
           rintro e w7 ⟨rfl, rfl⟩
           skip)
        | ((with_reducible refine HW2.out.mono ?_)
           rintro e w8 ⟨rfl, rfl⟩
           skip)
        | ((with_reducible refine HW3.out.mono ?_)
           rintro e w9 ⟨rfl, rfl⟩
           skip))
      go_ret
      exact ⟨by rw [HV.out]; simp [*] <;> intros <;> omega, H5.out.below⟩
    have g0 : (ty == 0) = true := by simp [h0]
    cases d1
    ·
      go_wp2_with (first
        | ((with_reducible refine HT1.out.mono ?_)
           rintro e w6 ⟨rfl, rfl⟩
           skip)
        | ((with_reducible refine HW1.out.mono ?_)
           rintro e w7 ⟨rfl, rfl⟩
           skip)
        | ((with_reducible refine HW2.out.mono ?_)
           rintro e w8 ⟨rfl, rfl⟩
           skip)
        | ((with_reducible refine HW3.out.mono ?_)
           rintro e w9 ⟨rfl, rfl⟩
           skip))
      go_ret
      exact ⟨by rw [HV.out]; simp [*] <;> intros <;> omega, H5.out.below⟩
    cases d2
    ·
      go_wp2_with (first
        | ((with_reducible refine HT1.out.mono ?_)
           rintro e w6 ⟨rfl, rfl⟩
           skip)
        | ((with_reducible refine HW1.out.mono ?_)
           rintro e w7 ⟨rfl, rfl⟩
           skip)
        | ((with_reducible refine HW2.out.mono ?_)
           rintro e w8 ⟨rfl, rfl⟩
           skip)
        | ((with_reducible refine HW3.out.mono ?_)
           rintro e w9 ⟨rfl, rfl⟩
           skip))
      go_ret
      exact ⟨by rw [HV.out]; simp [*] <;> intros <;> omega, H5.out.below⟩
    cases d3
    ·
      go_wp2_with (first
        | ((with_reducible refine HT1.out.mono ?_)
           rintro e w6 ⟨rfl, rfl⟩
           skip)
        | ((with_reducible refine HW1.out.mono ?_)
           rintro e w7 ⟨rfl, rfl⟩
           skip)
        | ((with_reducible refine HW2.out.mono ?_)
           rintro e w8 ⟨rfl, rfl⟩
           skip)
        | ((with_reducible refine HW3.out.mono ?_)
           rintro e w9 ⟨rfl, rfl⟩
           skip))
      go_ret
      exact ⟨by rw [HV.out]; simp [*] <;> intros <;> omega, H5.out.below⟩
    cases th
    rotate_left
    ·
      go_wp2_with (first
        | ((with_reducible refine HT1.out.mono ?_)
           rintro e w6 ⟨rfl, rfl⟩
           skip)
        | ((with_reducible refine HW1.out.mono ?_)
           rintro e w7 ⟨rfl, rfl⟩
           skip)
        | ((with_reducible refine HW2.out.mono ?_)
           rintro e w8 ⟨rfl, rfl⟩
           skip)
        | ((with_reducible refine HW3.out.mono ?_)
           rintro e w9 ⟨rfl, rfl⟩
           skip))
      go_ret
      exact ⟨by rw [HV.out]; simp [*] <;> intros <;> omega, H5.out.below⟩
    by_cases h5 : ou = 0
    rotate_left
    ·
      have g5 : (ou == 0) = false := by simp [h5]
      go_wp2_with (first
        | ((with_reducible refine HT1.out.mono ?_)
           rintro e w6 ⟨rfl, rfl⟩
           skip)
        | ((with_reducible refine HW1.out.mono ?_)
           rintro e w7 ⟨rfl, rfl⟩
           skip)
        | ((with_reducible refine HW2.out.mono ?_)
           rintro e w8 ⟨rfl, rfl⟩
           skip)
        | ((with_reducible refine HW3.out.mono ?_)
           rintro e w9 ⟨rfl, rfl⟩
           skip))
      go_ret
      exact ⟨by rw [HV.out]; simp [*] <;> intros <;> omega, H5.out.below⟩
    have g5 : (ou == 0) = true := by simp [h5]
    by_cases h6 : pi = 0
    rotate_left
    ·
      have g6 : (pi == 0) = false := by simp [h6]
      go_wp2_with (first
        | ((with_reducible refine HT1.out.mono ?_)
           rintro e w6 ⟨rfl, rfl⟩
           skip)
        | ((with_reducible refine HW1.out.mono ?_)
           rintro e w7 ⟨rfl, rfl⟩
           skip)
        | ((with_reducible refine HW2.out.mono ?_)
           rintro e w8 ⟨rfl, rfl⟩
           skip)
        | ((with_reducible refine HW3.out.mono ?_)
           rintro e w9 ⟨rfl, rfl⟩
           skip))
      go_ret
      exact ⟨by rw [HV.out]; simp [*] <;> intros <;> omega, H5.out.below⟩
    have g6 : (pi == 0) = true := by simp [h6]
    by_cases h7 : sz ≤ 1500
    rotate_left
    ·
      have g7 : ¬ (sz : Int) ≤ 1500 := by omega
      go_wp2_with (first
        | ((with_reducible refine HT1.out.mono ?_)
           rintro e w6 ⟨rfl, rfl⟩
           skip)
        | ((with_reducible refine HW1.out.mono ?_)
           rintro e w7 ⟨rfl, rfl⟩
           skip)
        | ((with_reducible refine HW2.out.mono ?_)
           rintro e w8 ⟨rfl, rfl⟩
           skip)
        | ((with_reducible refine HW3.out.mono ?_)
           rintro e w9 ⟨rfl, rfl⟩
           skip))
      go_ret
      exact ⟨by rw [HV.out]; simp [*] <;> intros <;> omega, H5.out.below⟩
    have g7 : (sz : Int) ≤ 1500 := by omega
    go_wp2_with (first
      | ((with_reducible refine HT1.out.mono ?_)
         rintro e w6 ⟨rfl, rfl⟩
         skip)
      | ((with_reducible refine HW1.out.mono ?_)
         rintro e w7 ⟨rfl, rfl⟩
         skip)
      | ((with_reducible refine HW2.out.mono ?_)
         rintro e w8 ⟨rfl, rfl⟩
         skip)
      | ((with_reducible refine HW3.out.mono ?_)
         rintro e w9 ⟨rfl, rfl⟩
         skip))
    go_ret
    exact ⟨by rw [HV.out]; simp [*] <;> intros <;> omega, H5.out.below⟩
  by_cases e3 : f.kind = 3
  · have hk1 : f.kindB = (decide (f.typ = 0) && (f.three 0 0 0 && (decide (0 ≤ f.oui) && (decide (f.oui < 16777216) && (decide (0 ≤ f.pid) && (decide (f.pid < 65536) && decide (f.size ≤ 1500))))))) := by unfold Fu.kindB; rw [if_neg e1, if_neg e2, if_pos e3]
    have HV := Lib.hid (HOK1.out.trans hk1)
    clear HOK1
    rw [e3] at k13
    clear hk1 e1 e2 e3 HT1 HW
    rw [HSV.out] at HV
    clear HSV
    generalize f.typ = ty at *
    generalize f.oui = ou at *
    generalize f.pid = pi at *
    generalize f.three 0 0 0 = th at *
    by_cases h0 : ty = 0
    rotate_left
    ·
      have g0 : (ty == 0) = false := by simp [h0]
      go_wp2_with (first
        | ((with_reducible refine HT0.out.mono ?_)
           rintro e w6 ⟨rfl, rfl⟩
           skip))
      go_ret
      exact ⟨by rw [HV.out]; simp [*] <;> intros <;> omega, H5.out.below⟩
    have g0 : (ty == 0) = true := by simp [h0]
    cases th
    ·
      go_wp2_with (first
        | ((with_reducible refine HT0.out.mono ?_)
           rintro e w6 ⟨rfl, rfl⟩
           skip))
      go_ret
      exact ⟨by rw [HV.out]; simp [*] <;> intros <;> omega, H5.out.below⟩
    by_cases h2 : 0 ≤ ou
    rotate_left
    ·
      go_wp2_with (first
        | ((with_reducible refine HT0.out.mono ?_)
           rintro e w6 ⟨rfl, rfl⟩
           skip))
      go_ret
      exact ⟨by rw [HV.out]; simp [*] <;> intros <;> omega, H5.out.below⟩
    by_cases h3 : ou < 16777216
    rotate_left
    ·
      go_wp2_with (first
        | ((with_reducible refine HT0.out.mono ?_)
           rintro e w6 ⟨rfl, rfl⟩
           skip))
      go_ret
      exact ⟨by rw [HV.out]; simp [*] <;> intros <;> omega, H5.out.below⟩
    by_cases h4 : 0 ≤ pi
    rotate_left
    ·
      go_wp2_with (first
        | ((with_reducible refine HT0.out.mono ?_)
           rintro e w6 ⟨rfl, rfl⟩
           skip))
      go_ret
      exact ⟨by rw [HV.out]; simp [*] <;> intros <;> omega, H5.out.below⟩
    by_cases h5 : pi < 65536
    rotate_left
    ·
      go_wp2_with (first
        | ((with_reducible refine HT0.out.mono ?_)
           rintro e w6 ⟨rfl, rfl⟩
           skip))
      go_ret
      exact ⟨by rw [HV.out]; simp [*] <;> intros <;> omega, H5.out.below⟩
    by_cases h6 : sz ≤ 1500
    rotate_left
    ·
      have g7 : ¬ (sz : Int) ≤ 1500 := by omega
      go_wp2_with (first
        | ((with_reducible refine HT0.out.mono ?_)
           rintro e w6 ⟨rfl, rfl⟩
           skip))
      go_ret
      exact ⟨by rw [HV.out]; simp [*] <;> intros <;> omega, H5.out.below⟩
    have g7 : (sz : Int) ≤ 1500 := by omega
    go_wp2_with (first
      | ((with_reducible refine HT0.out.mono ?_)
         rintro e w6 ⟨rfl, rfl⟩
         skip))
    go_ret
    exact ⟨by rw [HV.out]; simp [*] <;> intros <;> omega, H5.out.below⟩
  have hk1 : f.kindB = false := by unfold Fu.kindB; rw [if_neg e1, if_neg e2, if_neg e3]
  have HV := Lib.hid (HOK1.out.trans hk1)
  clear HOK1
  have b1 : (f.kind == 1) = false := by simp [e1]
  have b2 : (f.kind == 2) = false := by simp [e2]
  have b3 : (f.kind == 3) = false := by simp [e3]
  clear hk1 e1 e2 e3 HT0 HT1 HW
  generalize f.kind = kd at *
  go_wp2_with fail
  go_ret
  exact ⟨by rw [HV.out]; rfl, H5.out.below⟩
end Go.Proofs.YteibhcocldihbaaDoor

/- A port that may be set so; reserved addresses; plain frames that may be. -/
import Derived.Test.YtoenlcmngdpkmaaBr3
namespace Go.Proofs.Ytoenlcmngdpkmaa
open Go.RowKit
set_option maxRecDepth 100000 in
set_option maxHeartbeats 4000000 in
theorem right_any (q : PRow) (w : World) (hq : q.In w) (hn : q.p.ins.length ≤ 9223372036854775807) (hn2 : q.p.bare.length ≤ 9223372036854775807) :
    Calls Try.prog 27 #[.agg q.vals.toArray] w fun e w' => e = .returned (.bool (rightP q.p)) ∧ Below w.heap.size w w' := by
  have hff : ∀ (args : Array Value) (W : World), (callFunc 55 args).run Try.prog W = .ok (.enter 55 args) W := fun args W => by kernel_rfl
  have hBx := Blk.new w q.vals 44
  have hb0 : Below w.heap.size w (w.alloc (.cells q.vals.toArray 44)) := (Below.refl _ _).alloc (Nat.le_refl _) _
  have hlt : w.heap.size < (w.alloc (.cells q.vals.toArray 44)).heap.size := by simp
  have hV1 : ∀ W, Below w.heap.size w W → Calls Try.prog 53 #[q.iv] W fun e w' => e = .returned (.bool (vidsM q.p.ins)) ∧ Below W.heap.size W w' := fun W hW => vids_any _ _ W hn (hq.1.below hW)
  have hV2 : ∀ W, Below w.heap.size w W → Calls Try.prog 53 #[q.bv] W fun e w' => e = .returned (.bool (vidsM q.p.bare)) ∧ Below W.heap.size W w' := fun W hW => vids_any _ _ W hn2 (hq.2.below hW)
  have hV3 : ∀ W, Below (w.alloc (.cells q.vals.toArray 44)).heap.size (w.alloc (.cells q.vals.toArray 44)) W → Calls Try.prog 54 #[q.bv, .func (.func 55) #[] #[.pointer (some ⟨w.heap.size, 0, none⟩)]] W fun e w' => e = .returned (.bool (q.p.bare.any fun v => !decide (v ∈ q.p.ins))) ∧ Below W.heap.size W w' := fun W hW => by
    refine anyf_int (fun v => !decide (v ∈ q.p.ins)) q.p.bare q.bv _ _ W hn2 (hq.2.below (hb0.trans (hW.mono hb0.size))) hff (fun v X hX => ?_)
    exact right1_any v q w.heap.size X hn (hq.1.below (hb0.trans ((hW.trans (hX.mono hW.size)).mono hb0.size))) (laterc (hBx.box.cell 1) (hW.trans (hX.mono hW.size)) hlt)
  have c0 : (w.alloc (.cells q.vals.toArray 44)).cell? ⟨w.heap.size, 0, none⟩ = some (.int .i64 q.p.pvid) := hBx.box.cell 0
  have c1 : (w.alloc (.cells q.vals.toArray 44)).cell? ⟨w.heap.size, 1, none⟩ = some q.iv := hBx.box.cell 1
  have c2 : (w.alloc (.cells q.vals.toArray 44)).cell? ⟨w.heap.size, 2, none⟩ = some q.bv := hBx.box.cell 2
  have c3 : (w.alloc (.cells q.vals.toArray 44)).cell? ⟨w.heap.size, 3, none⟩ = some (.int .i64 q.p.state) := hBx.box.cell 3
  have hR : rightP q.p = (decide (1 ≤ q.p.pvid) && (decide (q.p.pvid ≤ 4094) && (decide (1 ≤ q.p.state) && (decide (q.p.state ≤ 3) && (decide (q.p.ins.length ≤ 64) && (vidsM q.p.ins && (vidsM q.p.bare && !(q.p.bare.any fun v => !decide (v ∈ q.p.ins))))))))) := rfl
  have HR := Lib.hid hR
  obtain ⟨A1, k1, e1, _, _⟩ := hq.1
  obtain ⟨A2, k2, e2, _, _⟩ := hq.2
  rw [intv_len] at e1 e2
  rw [e1] at hV1 c1
  rw [e2] at hV2 hV3 c2
  have HV1 := Lib.hid hV1
  have HV2 := Lib.hid hV2
  have HV3 := Lib.hid hV3
  have Hb0 := Lib.hid hb0
  clear hff hBx hV1 hV2 hV3 hR e1 e2 hq hb0
  generalize rightP q.p = R at *
  generalize vidsM q.p.ins = b1 at *
  generalize vidsM q.p.bare = b2 at *
  generalize (q.p.bare.any fun v => !decide (v ∈ q.p.ins)) = b3 at *
  generalize q.p.pvid = pv at *
  generalize q.p.state = st at *
  generalize q.p.ins.length = n1 at *
  generalize q.p.bare.length = n2 at *
  go_enter Try.func27, Try.ntmps27
  go_upto_region 1 with (fail)
  generalize w.alloc (.cells q.vals.toArray 44) = W1 at *
  have HbX : Hid (∀ X, Below W1.heap.size W1 X → Below w.heap.size w X) := Lib.hid fun X hX => Hb0.out.trans (hX.mono Hb0.out.size)
  have HB1 : Hid (Below W1.heap.size W1 W1) := Lib.hid (Below.refl _ _)
  clear Hb0
  by_cases h1 : pv < 1
  · have Hf : Hid (R = false) := Lib.hid (by rw [HR.out, decide_eq_false (by omega)]; rfl)
    go_wp2_with fail
    go_ret
    exact ⟨by rw [Hf.out]; rfl, HbX.out _ HB1.out⟩
  by_cases h2 : 4094 < pv
  · have Hf : Hid (R = false) := Lib.hid (by rw [HR.out, decide_eq_false (p := pv ≤ 4094) (by omega)]; simp)
    go_wp2_with fail
    go_ret
    exact ⟨by rw [Hf.out]; rfl, HbX.out _ HB1.out⟩
  by_cases h3 : st < 1
  · have Hf : Hid (R = false) := Lib.hid (by rw [HR.out, decide_eq_false (p := 1 ≤ st) (by omega)]; simp)
    go_wp2_with fail
    go_ret
    exact ⟨by rw [Hf.out]; rfl, HbX.out _ HB1.out⟩
  by_cases h4 : 3 < st
  · have Hf : Hid (R = false) := Lib.hid (by rw [HR.out, decide_eq_false (p := st ≤ 3) (by omega)]; simp)
    go_wp2_with fail
    go_ret
    exact ⟨by rw [Hf.out]; rfl, HbX.out _ HB1.out⟩
  by_cases h5 : 64 < n1
  · have Hf : Hid (R = false) := Lib.hid (by rw [HR.out, decide_eq_false (p := n1 ≤ 64) (by omega)]; simp)
    go_wp2_with fail
    go_ret
    exact ⟨by rw [Hf.out]; rfl, HbX.out _ HB1.out⟩
  have HR2 : Hid (R = (b1 && (b2 && !b3))) := Lib.hid (by rw [HR.out, decide_eq_true (by omega), decide_eq_true (p := pv ≤ 4094) (by omega), decide_eq_true (p := 1 ≤ st) (by omega), decide_eq_true (p := st ≤ 3) (by omega), decide_eq_true (p := n1 ≤ 64) (by omega)]; simp)
  have l0 : w.heap.size < W1.heap.size := hlt
  clear HR
  cases b1
  · go_wp2_with (first
      | ((with_reducible refine (HV1.out _ (HbX.out _ HB1.out)).mono ?_)
         rintro e w2 ⟨rfl, hb2⟩
         skip)
      )
    go_ret
    exact ⟨by rw [HR2.out]; rfl, HbX.out _ hb2⟩
  cases b2
  · go_wp2_with (first
      | ((with_reducible refine (HV1.out _ (HbX.out _ HB1.out)).mono ?_)
         rintro e w2 ⟨rfl, hb2⟩
         have HB2 := Lib.hid hb2
         have c22 : w2.cell? ⟨w.heap.size, 2, none⟩ = some (.slice A2 n2 k2) := laterc c2 hb2 hlt
         clear hb2)
      | ((with_reducible refine (HV2.out _ (HbX.out _ HB2.out)).mono ?_)
         rintro e w3 ⟨rfl, hb3⟩
         skip)
      )
    go_ret
    exact ⟨by rw [HR2.out]; rfl, HbX.out _ (HB2.out.trans (hb3.mono HB2.out.size))⟩
  · go_wp2_with (first
      | ((with_reducible refine (HV1.out _ (HbX.out _ HB1.out)).mono ?_)
         rintro e w2 ⟨rfl, hb2⟩
         have HB2 := Lib.hid hb2
         have c22 : w2.cell? ⟨w.heap.size, 2, none⟩ = some (.slice A2 n2 k2) := laterc c2 hb2 hlt
         clear hb2)
      | ((with_reducible refine (HV2.out _ (HbX.out _ HB2.out)).mono ?_)
         rintro e w3 ⟨rfl, hb3⟩
         have HB3 := Lib.hid (HB2.out.trans (hb3.mono HB2.out.size))
         have c23 : w3.cell? ⟨w.heap.size, 2, none⟩ = some (.slice A2 n2 k2) := laterc c2 HB3.out hlt
         clear hb3)
      | ((with_reducible refine (HV3.out _ HB3.out).mono ?_)
         rintro e w4 ⟨rfl, hb4⟩
         skip)
      )
    go_ret
    exact ⟨by rw [HR2.out]; simp, HbX.out _ (HB3.out.trans (hb4.mono HB3.out.size))⟩
def knownM (f : UInt8) : Ad := ⟨1, 128, 194, 0, 0, f⟩
def resV (a : Ad) : Int := if resM a then (a.f.toNat : Int) else -1
theorem resM_known (a : Ad) : resM a = (decide (a.f.toNat ≤ 15) && decide (a = knownM a.f)) := by
  obtain ⟨a0, a1, a2, a3, a4, a5⟩ := a
  have h : decide (a5 ≤ 15) = decide (a5.toNat ≤ 15) := by
    rw [Bool.eq_iff_iff]; simp only [decide_eq_true_eq]; exact UInt8.le_iff_toNat_le
  unfold resM knownM
  simp only [Ad.mk.injEq, and_true]
  rw [h, Bool.and_comm]
set_option maxRecDepth 100000 in
theorem known_any (f : UInt8) (w : World) :
    Calls Try.prog 39 #[.int .i64 (f.toNat : Int)] w fun e w' => e = .returned (.agg (knownM f).vals.toArray) ∧ Below w.heap.size w w' := by
  have h1 := f.toNat_lt
  have hv : (knownM f).vals = [.int .u8 1, .int .u8 128, .int .u8 194, .int .u8 0, .int .u8 0, .int .u8 (f.toNat : Int)] := rfl
  have Hv := Lib.hid hv
  clear hv
  generalize f.toNat = n at *
  go_enter Try.func39, Try.ntmps39
  go_upto_region 1 with (fail)
  obtain ⟨hA, hfA, lA, hb⟩ := one_box w _ _ _ rfl
  generalize w.alloc _ = W at *
  have ht := Lib.hid (there_of (n := 6) hA hfA rfl)
  clear hA hfA
  go_wp2_with (first
    | ((with_reducible refine wpList_store_tmp (b := ?b) [.int .u8 1, .int .u8 128, .int .u8 194, .int .u8 0, .int .u8 0, .int .u8 (n : Int)] ?hx ?hy ?ht ?hi ?h1 ?hk)
       case hx => rfl
       case hy => rfl
       case ht => exact ht.out
       case hi => exact info30
       case h1 => rw [← Hv.out]; exact (knownM f).one
       intro W2 hr hb2 _))
  refine ret_cell (cs := (knownM f).vals) rfl rfl (by rw [Hv.out]; exact hr) Try.underlying30 rfl info30 rfl ⟨rfl, hb2 _ _ (Nat.le_refl _) hb⟩
theorem ad_neq (x y : Ad) (W : World) : (binOp .neq 30 (.agg x.vals.toArray) (.agg y.vals.toArray)).run Try.prog W = .ok (.bool (!decide (x = y))) W := by
  rw [run_neq_struct, show (10000 : Nat) = 9998 + 1 + 1 from rfl, ad_eqIn]; rfl
set_option maxRecDepth 100000 in
set_option maxHeartbeats 2000000 in
theorem reserved_any (a : Ad) (w : World) :
    Calls Try.prog 56 #[.agg a.vals.toArray] w fun e w' => e = .returned (.int .i64 (resV a)) ∧ Below w.heap.size w w' := by
  have hBx := Blk.new w a.vals 30
  have hb0 : Below w.heap.size w (w.alloc (.cells a.vals.toArray 30)) := (Below.refl _ _).alloc (Nat.le_refl _) _
  have hlt : w.heap.size < (w.alloc (.cells a.vals.toArray 30)).heap.size := by simp
  have c5 : (w.alloc (.cells a.vals.toArray 30)).cell? ⟨w.heap.size, 5, none⟩ = some (.int .u8 (a.f.toNat : Int)) := hBx.box.cell 5
  have HRA : Hid ((w.alloc (.cells a.vals.toArray 30)).rangeAt w.heap.size 0 a.vals) := Lib.hid hBx.box.range
  have HK : Hid (∀ W, Calls Try.prog 39 #[.int .i64 (a.f.toNat : Int)] W fun e w' => e = .returned (.agg (knownM a.f).vals.toArray) ∧ Below W.heap.size W w') := Lib.hid fun W => known_any a.f W
  have HR : Hid (resM a = (decide (a.f.toNat ≤ 15) && decide (a = knownM a.f))) := Lib.hid (resM_known a)
  have HV : Hid (resV a = if resM a then (a.f.toNat : Int) else -1) := Lib.hid rfl
  have N2 : ∀ (W : World), (binOp .neq 30 (.agg a.vals.toArray) (.agg (knownM a.f).vals.toArray)).run Try.prog W = .ok (.bool (!decide (a = knownM a.f))) W := fun W => ad_neq _ _ W
  have G2 : ∀ (x y : Operand) (W : World), (eqGuard .neq 30 x y (.agg a.vals.toArray) (.agg (knownM a.f).vals.toArray)).run Try.prog W = .ok () W := fun x y W => ad_guard .neq _ _ x y W
  have h256 := a.f.toNat_lt
  have Hb0 := Lib.hid hb0
  clear hBx hb0
  generalize decide (a = knownM a.f) = b1 at *
  generalize (knownM a.f).vals = kv at *
  generalize resV a = V at *
  generalize resM a = M at *
  generalize a.f.toNat = n at *
  go_enter Try.func56, Try.ntmps56
  go_upto_region 1 with (fail)
  generalize w.alloc (.cells a.vals.toArray 30) = W1 at *
  by_cases h15 : 15 < n
  · have h15' : (15 : Int) < (n : Int) := by omega
    have HV2 : Hid (V = -1) := Lib.hid (by rw [HV.out, HR.out, decide_eq_false (by omega)]; rfl)
    refine wp_region_ext (by kernel_rfl) (by kernel_rfl) ?_
    repeat (go_big_quiet_step (fail))
    refine wpQuiet_nil ?_
    rintro w3 ⟨⟨_, hb3⟩, rfl⟩
    try simp only [] at *
    go_wp2_with fail
    go_ret
    exact ⟨by rw [HV2.out]; rfl, Hb0.out.trans (hb3.mono Hb0.out.size)⟩
  · have h15' : (n : Int) ≤ (15 : Int) := by omega
    have HV2 : Hid (V = if b1 then (n : Int) else -1) := Lib.hid (by rw [HV.out, HR.out, decide_eq_true (by omega)]; rfl)
    have hg : decide ((15 : Int) < (n : Int)) = false := decide_eq_false (by omega)
    clear HV HR h15 h15'
    cases b1
    · refine wp_region_ext (by kernel_rfl) (by kernel_rfl) ?_
      repeat (go_big_quiet_step (fail))
      go_big_quiet_want
      with_reducible refine quiet_load_rng (b := ?b7) (off := ?o7) (ds := ?ds7) a.vals ?hx7 ?hr7 ?hu7 ?hd7 ?hi7 ?hk7
      case hx7 => rfl
      case hr7 => rintro _ ⟨y, rfl⟩; exact rangeAt_below HRA.out y.below hlt
      case hu7 => exact Try.underlying30
      case hd7 => rfl
      case hi7 => exact info30
      go_simp
      go_big_quiet_on
      repeat (go_big_quiet_step ((go_at_call 39; exact Calls.ext _ (HK.out _))))
      refine wpQuiet_nil ?_
      rintro w3 ⟨⟨_, hb3⟩, rfl⟩
      try simp only [] at *
      go_wp2_with fail
      go_ret
      exact ⟨by rw [HV2.out]; rfl, Hb0.out.trans (hb3.mono Hb0.out.size)⟩
    · refine wp_region_ext (by kernel_rfl) (by kernel_rfl) ?_
      repeat (go_big_quiet_step (fail))
      go_big_quiet_want
      with_reducible refine quiet_load_rng (b := ?b8) (off := ?o8) (ds := ?ds8) a.vals ?hx8 ?hr8 ?hu8 ?hd8 ?hi8 ?hk8
      case hx8 => rfl
      case hr8 => rintro _ ⟨y, rfl⟩; exact rangeAt_below HRA.out y.below hlt
      case hu8 => exact Try.underlying30
      case hd8 => rfl
      case hi8 => exact info30
      go_simp
      go_big_quiet_on
      repeat (go_big_quiet_step ((go_at_call 39; exact Calls.ext _ (HK.out _))))
      refine wpQuiet_nil ?_
      rintro w3 ⟨⟨_, hb3⟩, rfl⟩
      try simp only [] at *
      have c53 := laterc c5 hb3 hlt
      have l3 := Nat.lt_of_lt_of_le hlt hb3.size
      go_wp2_with fail
      go_ret
      exact ⟨by rw [HV2.out]; rfl, Hb0.out.trans (hb3.mono Hb0.out.size)⟩
end Go.Proofs.Ytoenlcmngdpkmaa

/- mac: Known, Group, Reserved, Less. -/
import Derived.Test.YtkicbabfgahmkaaDoorMacM
import Derived.Test.YtkicbabfgahmkaaDoorQuietTail
import Derived.Test.YtkicbabfgahmkaaDoorCpA
import Derived.StillTailTactics
set_option linter.all false
namespace Go.Proofs.YtkicbabfgahmkaaDoor
open Go.RowKit
def known (n : Nat) : Ad := ⟨1, 128, 194, 0, 0, UInt8.ofNat n⟩
def resM (a : Ad) : Int := if 15 < a.f.toNat then -1 else if a = known a.f.toNat then (a.f.toNat : Int) else -1
theorem ad_neq (x y : Ad) (W : World) : (binOp .neq 23 (.agg x.vals.toArray) (.agg y.vals.toArray)).run Tryd.prog W = .ok (.bool (!decide (x = y))) W := by
  rw [run_neq_struct, show (10000 : Nat) = 9998 + 1 + 1 from rfl, ad_eqIn]; rfl
theorem ofNat_toNat (n : Nat) (h : n < 256) : (UInt8.ofNat n).toNat = n := by rw [UInt8.toNat_ofNat']; omega
set_option maxRecDepth 100000 in
set_option maxHeartbeats 1000000 in
theorem known_any (n : Nat) (hn : n < 256) (w : World) : Calls Tryd.prog 18 #[.int .i64 (n : Int)] w fun e w' => e = .returned (.agg (known n).vals.toArray) ∧ Below w.heap.size w w' := by
  have h1 := ofNat_toNat n hn
  simp only [known, Ad.vals, h1]
  clear h1
  go_enter Tryd.func18, Tryd.ntmps18
  go_wp2_with fail
  exact ret_cell (cs := [.int .u8 1, .int .u8 128, .int .u8 194, .int .u8 0, .int .u8 0, .int .u8 (n : Int)]) Tryd.results18 (by rfl) (Blk.box (Blk.new w _ 23)).range Tryd.underlying23 rfl info23 rfl ⟨rfl, (Below.refl _ _).alloc (Nat.le_refl _) _⟩
set_option maxRecDepth 100000 in
set_option maxHeartbeats 1000000 in
theorem group_known (n : Nat) (w : World) : Calls Tryd.prog 19 #[.agg (known n).vals.toArray] w fun e w' => e = .returned (.bool true) ∧ Below w.heap.size w w' := by
  simp only [known, Ad.vals]
  generalize (UInt8.ofNat n).toNat = m
  go_enter Tryd.func19, Tryd.ntmps19
  go_wp2_with fail
  go_ret
  exact ⟨rfl, by go_grown⟩
set_option maxRecDepth 100000 in
set_option maxHeartbeats 1000000 in
theorem reserved_any (a : Ad) (w : World) : Calls Tryd.prog 17 #[.agg a.vals.toArray] w fun e w' => e = .returned (.int .i64 (resM a)) ∧ Below w.heap.size w w' := by
  have hlt := a.f.toNat_lt
  have HK := Lib.hid (known_any a.f.toNat hlt)
  have H0 := Lib.hid ((St.init w).alloc a.vals 23)
  have hR : resM a = if 15 < a.f.toNat then -1 else if a = known a.f.toNat then (a.f.toNat : Int) else -1 := rfl
  by_cases h : 15 < a.f.toNat
  · rw [if_pos h] at hR
    have hI : (15 : Int) < (a.f.toNat : Int) := by omega
    rw [hR]
    clear h hR hlt HK
    go_enter Tryd.func17, Tryd.ntmps17
    go_upto_region 1 with (fail)
    generalize World.alloc _ _ = w1 at *
    have c5 : w1.cell? ⟨w.heap.size, 5, none⟩ = some (.int .u8 a.f.toNat) := H0.out.cell 5
    have l0 := (H0.out.at 0 rfl).lt
    refine wp_region_ext (by kernel_rfl) (by kernel_rfl) ?_
    repeat (go_big_quiet_step (fail))
    refine wpQuiet_nil ?_
    rintro w2 ⟨⟨_, hb2⟩, rfl⟩
    go_wp2_with fail
    go_ret
    exact ⟨rfl, H0.out.below.trans (hb2.mono H0.out.below.size)⟩
  · rw [if_neg h] at hR
    have hI : ¬ (15 : Int) < (a.f.toNat : Int) := by omega
    obtain ⟨c, hc⟩ : ∃ c, decide (a = known a.f.toNat) = c := ⟨_, rfl⟩
    have hR2 : resM a = if c = true then (a.f.toNat : Int) else -1 := by rw [hR, ← hc]; simp
    have HN : Hid (∀ W, (binOp .neq 23 (.agg a.vals.toArray) (.agg (known a.f.toNat).vals.toArray)).run Tryd.prog W = .ok (.bool (!c)) W) := Lib.hid (fun W => by rw [ad_neq, hc])
    rw [hR2]
    clear h hR hR2 hc hlt
    have HG := Lib.hid (fun p q W => ad_guard .neq a (known a.f.toNat) p q W)
    generalize known a.f.toNat = K at *
    go_enter Tryd.func17, Tryd.ntmps17
    go_upto_region 1 with (fail)
    generalize World.alloc _ _ = w1 at *
    have c5 : w1.cell? ⟨w.heap.size, 5, none⟩ = some (.int .u8 a.f.toNat) := H0.out.cell 5
    have RA := Lib.hid (Blk.box (H0.out.at 0 rfl)).range
    have l0 := (H0.out.at 0 rfl).lt
    have HN := HN.out
    have HG := HG.out
    refine wp_region_ext (by kernel_rfl) (by kernel_rfl) ?_
    repeat (go_big_quiet_step (fail))
    go_big_quiet_want
    with_reducible refine quiet_load_rng (b := ?b1) (off := ?o1) (ds := ?ds1) a.vals ?hx1 ?hr1 ?hu1 ?hd1 ?hi1 ?hk1
    case hx1 => rfl
    case hr1 => rintro _ ⟨y, rfl⟩; exact rangeAt_below RA.out y.below l0
    case hu1 => exact Tryd.underlying23
    case hd1 => rfl
    case hi1 => exact info23
    go_simp
    go_big_quiet_on
    repeat (go_big_quiet_step ((go_at_call 18; exact Calls.ext _ (HK.out _))))
    refine wpQuiet_nil ?_
    rintro w2 ⟨⟨_, hb2⟩, rfl⟩
    have c52 : w2.cell? ⟨w.heap.size, 5, none⟩ = some (.int .u8 a.f.toNat) := (H0.out.ext hb2).cell 5
    cases c
    · go_wp2_with fail
      go_ret
      exact ⟨rfl, H0.out.below.trans (hb2.mono H0.out.below.size)⟩
    · go_wp2_with fail
      go_ret
      exact ⟨rfl, H0.out.below.trans (hb2.mono H0.out.below.size)⟩
end Go.Proofs.YtkicbabfgahmkaaDoor

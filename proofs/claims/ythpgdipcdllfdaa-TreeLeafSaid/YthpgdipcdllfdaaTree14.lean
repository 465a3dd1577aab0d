/- The closure of Roles. -/
import Derived.Test.YthpgdipcdllfdaaTree13
namespace Go.Proofs.Ythpgdipcdllfdaa
open Go.RowKit
set_option maxRecDepth 100000 in
set_option maxHeartbeats 1000000 in
theorem roles1_any (v : Vec) (N : Node) (hasi : Vec) (p : Pt) (g o np cap i k nn capH PN PH PI PK gH : Nat) (hk : k < np) (hl : np ≤ 8) (hi : i < nn) (hn : nn ≤ 12) (w : World) (hg : g < w.heap.size) (h0 : w.cell? ⟨g, o + k * 4, none⟩ = some (.int .i64 p.prio)) (h1 : w.cell? ⟨g, o + k * 4 + 1, none⟩ = some (.int .i64 p.no))
    (hN : w.rangeAt PN 0 (N.vals (.slice (some ⟨g, o, none⟩) np cap))) (lN : PN < w.heap.size) (hH : w.cell? ⟨PH, 0, none⟩ = some (.slice (some ⟨gH, 0, none⟩) nn capH)) (lH : PH < w.heap.size) (hI : w.cell? ⟨PI, 0, none⟩ = some (.int .i64 (i : Int))) (lI : PI < w.heap.size) (hK : w.cell? ⟨PK, 0, none⟩ = some (.int .i64 (k : Int))) (lK : PK < w.heap.size)
    (hR : w.rangeAt gH (i * 21) hasi.vals) (lR : gH < w.heap.size) :
    Calls Try.prog 46 #[.agg v.vals.toArray, .pointer (some ⟨PN, 0, none⟩), .pointer (some ⟨PH, 0, none⟩), .pointer (some ⟨PI, 0, none⟩), .pointer (some ⟨PK, 0, none⟩)] w fun e w' => e = .returned (.bool (better v (tellV N hasi p))) ∧ Below w.heap.size w w' := by
  have HN := Lib.hid hN
  have HR := Lib.hid hR
  clear hN hR
  go_enter Try.func46, Try.ntmps46
  go_upto_region 1 with (fail)
  have HB : Hid (Box (w.alloc (.cells v.vals.toArray 48)) w.heap.size v.vals) := Box.new w v.vals 48
  have hb : Below w.heap.size w (w.alloc (.cells v.vals.toArray 48)) := (Below.refl _ w).alloc (Nat.le_refl _) _
  have lB : w.heap.size < (w.alloc (.cells v.vals.toArray 48)).heap.size := by simp
  generalize w.alloc (.cells v.vals.toArray 48) = W at *
  have h01 := laterc h0 hb hg
  have h11 := laterc h1 hb hg
  have hH1 := laterc hH hb lH
  have hI1 := laterc hI hb lI
  have hK1 := laterc hK hb lK
  have HN1 := Lib.hid (rangeAt_below HN.out hb lN)
  have HR1 := Lib.hid (rangeAt_below HR.out hb lR)
  have lg1 := Nat.lt_of_lt_of_le hg hb.size
  have lN1 := Nat.lt_of_lt_of_le lN hb.size
  have lH1 := Nat.lt_of_lt_of_le lH hb.size
  have lI1 := Nat.lt_of_lt_of_le lI hb.size
  have lK1 := Nat.lt_of_lt_of_le lK hb.size
  have lR1 := Nat.lt_of_lt_of_le lR hb.size
  clear h0 h1 hH hI hK HN HR hg lN lH lI lK lR
  refine wp_region_ext (by kernel_rfl) (by kernel_rfl) ?_
  go_big_quiet_want
  with_reducible refine quiet_load_rng (b := ?b1) (off := ?o1) (ds := ?ds1) v.vals ?hx1 ?hr1 ?hu1 ?hd1 ?hi1 ?hk1
  case hx1 => rfl
  case hr1 => rintro _ ⟨y, rfl⟩; exact rangeAt_below HB.out.range y.below lB
  case hu1 => exact Try.underlying48
  case hd1 => rfl
  case hi1 => exact info48
  go_simp
  go_big_quiet_on
  go_big_quiet_want
  with_reducible refine quiet_load_rng (b := ?b2) (off := ?o2) (ds := ?ds2) (N.vals (.slice (some ⟨g, o, none⟩) np cap)) ?hx2 ?hr2 ?hu2 ?hd2 ?hi2 ?hk2
  case hx2 => rfl
  case hr2 => rintro _ ⟨y, rfl⟩; exact rangeAt_below HN1.out y.below lN1
  case hu2 => exact Try.underlying32
  case hd2 => rfl
  case hi2 => exact info32
  go_simp
  go_big_quiet_on
  repeat (go_big_quiet_step (fail))
  go_big_quiet_want
  with_reducible refine quiet_load_rng (b := ?b3) (off := ?o3) (ds := ?ds3) hasi.vals ?hx3 ?hr3 ?hu3 ?hd3 ?hi3 ?hk3
  case hx3 => rfl
  case hr3 => rintro _ ⟨y, rfl⟩; exact rangeAt_below HR1.out y.below lR1
  case hu3 => exact Try.underlying48
  case hd3 => rfl
  case hi3 => exact info48
  go_simp
  go_big_quiet_on
  repeat (go_big_quiet_step (fail))
  go_big_quiet_step ((go_at_call 47; refine Calls.ext _ (tells_any N hasi p g o np cap k hk hl _ ?_ ?_ ?_); (· exact Nat.lt_of_lt_of_le lg1 (Ext.below _).size); (· exact laterc h01 (Ext.below _) lg1); (· exact laterc h11 (Ext.below _) lg1)))
  repeat (go_big_quiet_step (fail))
  go_big_quiet_step ((go_at_call 35; exact Calls.ext _ (better_any v (tellV N hasi p) _)))
  repeat (go_big_quiet_step (fail))
  refine wpQuiet_nil ?_
  rintro w' ⟨⟨_, hb3⟩, rfl⟩
  go_wp2_with fail
  go_ret
  exact ⟨rfl, hb.trans (hb3.mono hb.size)⟩
end Go.Proofs.Ythpgdipcdllfdaa

/- tree.Tells. -/
import Derived.Test.YthpgdipcdllfdaaTree1
namespace Go.Proofs.Ythpgdipcdllfdaa
open Go.RowKit
def tellV (n : Node) (has : Vec) (p : Pt) : Vec := { root := has.root, cost := has.cost, sender := n.br, port := p, at_ := ⟨0, 0⟩ }
def hearV (told : Vec) (p : Pt) (c : Int) : Vec := { told with cost := told.cost + c, at_ := p }
theorem later {w w1 : World} {b : Nat} {C : Array Value} (hc : ∀ j, w.cell? ⟨b, j, none⟩ = C[j]?) (hb : Below w.heap.size w w1) (hl : b < w.heap.size) : ∀ j, w1.cell? ⟨b, j, none⟩ = C[j]? :=
  fun j => (hb.cell (p := ⟨b, j, none⟩) hl).trans (hc j)
theorem laterc {w w1 : World} {b o B : Nat} {v : Value} (hc : w.cell? ⟨b, o, none⟩ = some v) (hb : Below B w w1) (hl : b < B) : w1.cell? ⟨b, o, none⟩ = some v :=
  (hb.cell (p := ⟨b, o, none⟩) hl).trans hc
set_option maxRecDepth 100000 in
set_option maxHeartbeats 1000000 in
theorem tells_any (n : Node) (has : Vec) (p : Pt) (g o len cap k : Nat) (hk : k < len) (hl : len ≤ 8) (w : World) (hg : g < w.heap.size) (h0 : w.cell? ⟨g, o + k * 4, none⟩ = some (.int .i64 p.prio)) (h1 : w.cell? ⟨g, o + k * 4 + 1, none⟩ = some (.int .i64 p.no)) :
    Calls Try.prog 47 #[.agg (n.vals (.slice (some ⟨g, o, none⟩) len cap)).toArray, .agg has.vals.toArray, .int .i64 (k : Int)] w fun e w' => e = .returned (.agg (tellV n has p).vals.toArray) ∧ Below w.heap.size w w' := by
  simp only [Node.vals, Vec.vals, Br.vals, Ad.vals, Pt.vals, List.cons_append, List.nil_append]
  go_enter Try.func47, Try.ntmps47
  go_upto_region 1 with (fail)
  obtain ⟨hA, hB, hC, hfA, hfB, hfC, lA, lB, lC, hb⟩ := three_boxes w _ _ _ _ _ _ _ rfl
  generalize ((w.alloc _).alloc _).alloc _ = W at *
  have hg1 : g < W.heap.size := by omega
  have h01 := laterc h0 hb hg
  have h11 := laterc h1 hb hg
  have ht := Lib.hid (there_of (n := 21) hC hfC rfl)
  clear hC hfA hfB hfC h0 h1
  go_wp2_with fail
  refine (there_yes n (some ⟨g, o, none⟩) len cap k hk hl _).mono ?_
  rintro e w1 ⟨rfl, hb1⟩
  have hA1 := later hA hb1 lA
  have hB1 := later hB hb1 lB
  have h02 := laterc h01 hb1 hg1
  have h12 := laterc h11 hb1 hg1
  have ht1 := Lib.hid (there_below ht.out hb1 lC)
  have lA1 : w.heap.size < w1.heap.size := Nat.lt_of_lt_of_le lA hb1.size
  have lB1 : w.heap.size + 1 < w1.heap.size := Nat.lt_of_lt_of_le lB hb1.size
  have lC1 : w.heap.size + 1 + 1 < w1.heap.size := Nat.lt_of_lt_of_le lC hb1.size
  have lg1 : g < w1.heap.size := Nat.lt_of_lt_of_le hg1 hb1.size
  have hb2 : Below w.heap.size w w1 := hb.trans (hb1.mono hb.size)
  clear hA hB h01 h11 ht hb hb1 lA lB lC hg1 hg
  go_wp2_with fail
  refine wp_region_ext_tail 13 (by kernel_rfl) (by kernel_rfl) ?_
  simp only [List.take_succ_cons, List.take_zero, List.drop_succ_cons, List.drop_zero]
  repeat (go_big_quiet_step (fail))
  refine wpQuiet_nil ?_
  rintro w' ⟨⟨W3, hb3⟩, rfl⟩
  try simp only [] at *
  have ht3 := Lib.hid (there_below ht1.out hb3 lC1)
  clear hA1 hB1 h02 h12 ht1
  go_wp2_with (
    (with_reducible refine wpList_store_tmp (b := ?b) (tellV n has p).vals ?hx ?hy ?ht ?hi ?h1 ?hk)
    case hx => rfl
    case hy => rfl
    case ht => exact ht3.out
    case hi => exact info48
    case h1 => exact (tellV n has p).one
    intro W2 hr hb4 _)
  refine ret_cell (cs := (tellV n has p).vals) rfl rfl hr Try.underlying48 rfl info48 rfl ⟨rfl, hb4 _ _ (by omega) (hb2.trans (hb3.mono hb2.size))⟩
end Go.Proofs.Ythpgdipcdllfdaa

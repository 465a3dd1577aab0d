/- tree.Hears. -/
import Derived.Test.YthpgdipcdllfdaaTree2
namespace Go.Proofs.Ythpgdipcdllfdaa
open Go.RowKit
theorem laterf {w w1 : World} {b B : Nat} (hc : ∀ j, w.frozen? ⟨b, j, none⟩ = false) (hb : Below B w w1) (hl : b < B) : ∀ j, w1.frozen? ⟨b, j, none⟩ = false :=
  fun j => (hb.frozen (p := ⟨b, j, none⟩) hl).trans (hc j)
theorem laterB {w w1 : World} {b B : Nat} {C : Array Value} (hc : ∀ j, w.cell? ⟨b, j, none⟩ = C[j]?) (hb : Below B w w1) (hl : b < B) : ∀ j, w1.cell? ⟨b, j, none⟩ = C[j]? :=
  fun j => (hb.cell (p := ⟨b, j, none⟩) hl).trans (hc j)
theorem there_setCell {w : World} {b o n : Nat} (h : w.there b o n) (a : Addr) (v : Value) : (w.setCell a v).there b o n :=
  fun j hj => ⟨by
    obtain ⟨u, hu⟩ := Option.isSome_iff_exists.1 (h j hj).1
    by_cases e : a = ⟨b, o + j, none⟩
    · subst e; rw [World.cell?_setCell_same _ _ _ hu]; rfl
    · rw [World.cell?_setCell_other _ _ _ _ e, hu]; rfl, by rw [World.frozen?_setCell]; exact (h j hj).2⟩
theorem info3 : (Try.prog.info? 3).map (·.size) = some 1 := by kernel_rfl
theorem info35 : (Try.prog.info? 35).map (·.size) = some 2 := by kernel_rfl
set_option maxRecDepth 100000 in
set_option maxHeartbeats 2000000 in
theorem hears_any (n : Node) (told : Vec) (p : Pt) (c : Int) (g o len cap k : Nat) (hk : k < len) (hl : len ≤ 8) (hc1 : 0 ≤ told.cost) (hc2 : told.cost ≤ 4000000000) (hc3 : 0 ≤ c) (hc4 : c ≤ 200000000) (w : World) (hg : g < w.heap.size)
    (h0 : w.cell? ⟨g, o + k * 4, none⟩ = some (.int .i64 p.prio)) (h1 : w.cell? ⟨g, o + k * 4 + 1, none⟩ = some (.int .i64 p.no)) (h2 : w.cell? ⟨g, o + k * 4 + 2, none⟩ = some (.int .i64 c)) :
    Calls Try.prog 51 #[.agg (n.vals (.slice (some ⟨g, o, none⟩) len cap)).toArray, .agg told.vals.toArray, .int .i64 (k : Int)] w fun e w' => e = .returned (.agg (hearV told p c).vals.toArray) ∧ Below w.heap.size w w' := by
  simp only [Node.vals, Vec.vals, Br.vals, Ad.vals, Pt.vals, List.cons_append, List.nil_append]
  go_enter Try.func51, Try.ntmps51
  go_upto_region 1 with (fail)
  obtain ⟨hA, hB, hC, hfA, hfB, hfC, lA, lB, lC, hb⟩ := three_boxes w _ _ _ _ _ _ _ rfl
  generalize ((w.alloc _).alloc _).alloc _ = W at *
  have hg1 : g < W.heap.size := by omega
  have h01 := laterc h0 hb hg
  have h11 := laterc h1 hb hg
  have h21 := laterc h2 hb hg
  have ht := Lib.hid (there_of (n := 21) hC hfC rfl)
  have hgB : g ≠ w.heap.size + 1 := by omega
  clear hC hfA hfC h0 h1 h2
  go_wp2_with fail
  refine (there_yes n (some ⟨g, o, none⟩) len cap k hk hl _).mono ?_
  rintro e w1 ⟨rfl, hb1⟩
  have hA1 := later hA hb1 lA
  have hB1 := later hB hb1 lB
  have hfB1 := laterf hfB hb1 lB
  have h02 := laterc h01 hb1 hg1
  have h12 := laterc h11 hb1 hg1
  have h22 := laterc h21 hb1 hg1
  have ht1 := Lib.hid (there_below ht.out hb1 lC)
  have lA1 : w.heap.size < w1.heap.size := Nat.lt_of_lt_of_le lA hb1.size
  have lB1 : w.heap.size + 1 < w1.heap.size := Nat.lt_of_lt_of_le lB hb1.size
  have lC1 : w.heap.size + 1 + 1 < w1.heap.size := Nat.lt_of_lt_of_le lC hb1.size
  have lg1 : g < w1.heap.size := Nat.lt_of_lt_of_le hg1 hb1.size
  have hb2 : Below w.heap.size w w1 := hb.trans (hb1.mono hb.size)
  clear hA hB hfB h01 h11 h21 ht hb hb1 lA lB lC hg1 hg
  go_wp2_with fail
  refine wp_region_ext_tail 10 (by kernel_rfl) (by kernel_rfl) ?_
  simp only [List.take_succ_cons, List.take_zero, List.drop_succ_cons, List.drop_zero]
  repeat (go_big_quiet_step (fail))
  refine wpQuiet_nil ?_
  rintro w' ⟨⟨W3, hb3⟩, rfl⟩
  try simp only [] at *
  have ht3 := there_below ht1.out hb3 lC1
  have hA3 := laterB hA1 hb3 lA1
  have hBx : Box w' (w.heap.size + 1) told.vals := ⟨laterB hB1 hb3 lB1, laterf hfB1 hb3 lB1⟩
  have h03 := laterc h02 hb3 lg1
  have h13 := laterc h12 hb3 lg1
  have hb4 : Below w.heap.size w w' := hb2.trans (hb3.mono hb2.size)
  clear hA1 hB1 hfB1 h02 h12 h22 ht1 hb2 hb3
  with_reducible refine wpList_store_box (b := ?b) (o := ?o) told.vals [.int .i64 (told.cost + c)] ?hx ?hy ?hB ?ho ?hi ?h1 ?hk
  case hx => rfl
  case hy => rfl
  case hB => exact hBx
  case ho => show 8 + 1 ≤ 21; decide
  case hi => exact info3
  case h1 => exact fun v hv => by simp at hv; rw [hv]; rfl
  intro W4 hB4 ho4
  have hA4 : ∀ j, W4.cell? ⟨w.heap.size, j, none⟩ = _ := fun j => (ho4.cell (by omega)).trans (hA3 j)
  have h04 := (ho4.cell hgB).trans h03
  have h14 := (ho4.cell hgB).trans h13
  have HB4 : Hid (Box W4 (w.heap.size + 1) ({ told with cost := told.cost + c } : Vec).vals) := hB4
  have Ht4 := Lib.hid (fun j (hj : j < 21) => (by rw [ho4.cell (by omega), ho4.frozen (by omega)]; exact ht3 j hj : (W4.cell? ⟨w.heap.size + 1 + 1, 0 + j, none⟩).isSome = true ∧ W4.frozen? ⟨w.heap.size + 1 + 1, 0 + j, none⟩ = false))
  have hb5 := ho4.below (by omega) hb4
  clear hA3 hBx h03 h13 ht3 hb4 hB4 ho4
  go_upto_region 5 with (
    (with_reducible refine wpList_store_box (ty := 35) (b := ?b2) (o := ?o2) ({ told with cost := told.cost + c } : Vec).vals p.vals ?hx2 ?hy2 ?hB2 ?ho2 ?hi2 ?h12 ?hk2)
    case hx2 => rfl
    case hy2 => rfl
    case hB2 => exact HB4.out
    case ho2 => show 19 + 2 ≤ 21; decide
    case hi2 => exact info35
    case h12 => exact p.one
    intro W5 hB5 ho5
    have HB5 : Hid (Box W5 (w.heap.size + 1) (hearV told p c).vals) := hB5
    have Ht5 : Hid (W5.there (w.heap.size + 1 + 1) 0 21) := fun j hj => (by rw [ho5.cell (by omega), ho5.frozen (by omega)]; exact Ht4.out j hj : (W5.cell? ⟨w.heap.size + 1 + 1, 0 + j, none⟩).isSome = true ∧ W5.frozen? ⟨w.heap.size + 1 + 1, 0 + j, none⟩ = false)
    have hb6 := ho5.below (by omega) hb5
    clear hB5 ho5 hb5 Ht4 HB4 hA4 h04 h14)
  go_wp2_with (
    (with_reducible refine wpList_load_box (ty := 48) (b := ?b3) (ds := ?ds3) (hearV told p c).vals ?hx3 ?hB3 ?hu3 ?hd3 ?hi3 ?hk3)
    case hx3 => rfl
    case hB3 => exact HB5.out
    case hu3 => exact Try.underlying48
    case hd3 => rfl
    case hi3 => exact info48
    with_reducible refine wpList_store_tmp (b := ?b4) (hearV told p c).vals ?hx4 ?hy4 ?ht4 ?hi4 ?h14 ?hk4
    case hx4 => rfl
    case hy4 => rfl
    case ht4 => exact Ht5.out
    case hi4 => exact info48
    case h14 => exact (hearV told p c).one
    intro W2 hr hb7 _)
  refine ret_cell (cs := (hearV told p c).vals) rfl rfl hr Try.underlying48 rfl info48 rfl ⟨rfl, hb7 _ _ (by omega) hb6⟩
end Go.Proofs.Ythpgdipcdllfdaa

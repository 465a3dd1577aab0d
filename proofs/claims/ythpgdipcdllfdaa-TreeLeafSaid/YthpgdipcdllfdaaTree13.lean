/- tree.Role; the closure of Roles. -/
import Derived.Test.YthpgdipcdllfdaaTree12
namespace Go.Proofs.Ythpgdipcdllfdaa
open Go.RowKit
def roleV (n : Node) (has : Vec) (p : Pt) (best : Bool) : Int := if best then 1 else if has.root ≠ n.br ∧ has.at_ = p then 2 else 3
set_option maxRecDepth 100000 in
set_option maxHeartbeats 1000000 in
theorem role_any (n : Node) (has : Vec) (p : Pt) (g o len cap k : Nat) (best : Bool) (hk : k < len) (hl : len ≤ 8) (w : World) (hg : g < w.heap.size) (h0 : w.cell? ⟨g, o + k * 4, none⟩ = some (.int .i64 p.prio)) (h1 : w.cell? ⟨g, o + k * 4 + 1, none⟩ = some (.int .i64 p.no)) :
    Calls Try.prog 48 #[.agg (n.vals (.slice (some ⟨g, o, none⟩) len cap)).toArray, .agg has.vals.toArray, .int .i64 (k : Int), .bool best] w fun e w' => e = .returned (.int .i64 (roleV n has p best)) ∧ Below w.heap.size w w' := by
  have hbn : ∀ (W : World), (binOp .neq 29 (.agg has.root.vals.toArray) (.agg n.br.vals.toArray)).run Try.prog W = .ok (.bool (!decide (has.root = n.br))) W := fun W => br_neq has.root n.br W
  have hbg : ∀ (x y : Operand) (W : World), (eqGuard .neq 29 x y (.agg has.root.vals.toArray) (.agg n.br.vals.toArray)).run Try.prog W = .ok () W := fun x y W => br_guard .neq has.root n.br x y W
  have hpe : ∀ (W : World), (binOp .eql 35 (.agg has.at_.vals.toArray) (.agg p.vals.toArray)).run Try.prog W = .ok (.bool (decide (has.at_ = p))) W := fun W => pt_eq has.at_ p W
  have hpg : ∀ (x y : Operand) (W : World), (eqGuard .eql 35 x y (.agg has.at_.vals.toArray) (.agg p.vals.toArray)).run Try.prog W = .ok () W := fun x y W => pt_guard has.at_ p x y W
  have hrv : roleV n has p best = if best = true then 1 else if (!decide (has.root = n.br) && decide (has.at_ = p)) = true then 2 else 3 := by
    unfold roleV
    by_cases e1 : has.root = n.br <;> by_cases e2 : has.at_ = p <;> simp [e1, e2]
  rw [hrv]
  clear hrv
  generalize decide (has.root = n.br) = v1 at *
  generalize decide (has.at_ = p) = v2 at *
  simp only [Node.vals, Vec.vals, Br.vals, Ad.vals, Pt.vals, List.cons_append, List.nil_append] at *
  cases best
  · cases v1
    · cases v2
      all_goals
        go_enter Try.func48, Try.ntmps48
        go_upto_region 1 with (fail)
        obtain ⟨hA, hB, _, _, lA, lB, hb⟩ := two_boxes w _ _ _ _ _ rfl
        generalize (w.alloc _).alloc _ = W at *
        have hg1 : g < W.heap.size := by omega
        have h01 := laterc h0 hb hg
        have h11 := laterc h1 hb hg
        clear h0 h1
        go_wp2_with fail
        refine (there_yes n (some ⟨g, o, none⟩) len cap k hk hl _).mono ?_
        rintro e w1 ⟨rfl, hb1⟩
        have hA1 := later hA hb1 lA
        have hB1 := later hB hb1 lB
        have h02 := laterc h01 hb1 hg1
        have h12 := laterc h11 hb1 hg1
        have lA1 : w.heap.size < w1.heap.size := Nat.lt_of_lt_of_le lA hb1.size
        have lB1 : w.heap.size + 1 < w1.heap.size := Nat.lt_of_lt_of_le lB hb1.size
        have lg1 : g < w1.heap.size := Nat.lt_of_lt_of_le hg1 hb1.size
        have hb2 : Below w.heap.size w w1 := hb.trans (hb1.mono hb.size)
        clear hA hB h01 h11 hb hb1 lA lB hg1 hg
        go_wp2_with fail
        refine wp_region_ext (by kernel_rfl) (by kernel_rfl) ?_
        repeat (go_big_quiet_step (fail))
        refine wpQuiet_nil ?_
        rintro w' ⟨⟨_, hb3⟩, rfl⟩
        clear hA1 hB1 h02 h12
        go_wp2_with fail
        go_ret
        exact ⟨rfl, hb2.trans (hb3.mono hb2.size)⟩
    · go_enter Try.func48, Try.ntmps48
      go_upto_region 1 with (fail)
      obtain ⟨hA, hB, _, _, lA, lB, hb⟩ := two_boxes w _ _ _ _ _ rfl
      generalize (w.alloc _).alloc _ = W at *
      clear h0 h1
      go_wp2_with fail
      refine (there_yes n (some ⟨g, o, none⟩) len cap k hk hl _).mono ?_
      rintro e w1 ⟨rfl, hb1⟩
      have hA1 := later hA hb1 lA
      have hB1 := later hB hb1 lB
      have lA1 : w.heap.size < w1.heap.size := Nat.lt_of_lt_of_le lA hb1.size
      have lB1 : w.heap.size + 1 < w1.heap.size := Nat.lt_of_lt_of_le lB hb1.size
      have hb2 : Below w.heap.size w w1 := hb.trans (hb1.mono hb.size)
      clear hA hB hb hb1 lA lB hg
      go_wp2_with fail
      refine wp_region_ext (by kernel_rfl) (by kernel_rfl) ?_
      repeat (go_big_quiet_step (fail))
      refine wpQuiet_nil ?_
      rintro w' ⟨⟨_, hb3⟩, rfl⟩
      clear hA1 hB1
      go_wp2_with fail
      go_ret
      exact ⟨rfl, hb2.trans (hb3.mono hb2.size)⟩
  · go_enter Try.func48, Try.ntmps48
    go_upto_region 1 with (fail)
    obtain ⟨hA, hB, _, _, lA, lB, hb⟩ := two_boxes w _ _ _ _ _ rfl
    generalize (w.alloc _).alloc _ = W at *
    clear h0 h1
    go_wp2_with fail
    refine (there_yes n (some ⟨g, o, none⟩) len cap k hk hl _).mono ?_
    rintro e w1 ⟨rfl, hb1⟩
    go_wp2_with fail
    go_ret
    exact ⟨rfl, hb.trans (hb1.mono hb.size)⟩
end Go.Proofs.Ythpgdipcdllfdaa

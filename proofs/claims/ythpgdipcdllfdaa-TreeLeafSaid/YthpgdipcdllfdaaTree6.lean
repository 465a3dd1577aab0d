/- tree.twice. -/
import Derived.Test.YthpgdipcdllfdaaTree5
import Derived.Test.YthpgdipcdllfdaaStructEq
namespace Go.Proofs.Ythpgdipcdllfdaa
open Go.RowKit
set_option maxRecDepth 100000 in
set_option maxHeartbeats 1000000 in
theorem tw1_any (q p : Mem) (B : Nat) (w : World) (hB : B < w.heap.size) (h0 : w.cell? ⟨B, 0, none⟩ = some (.int .i64 p.port.prio)) (h1 : w.cell? ⟨B, 1, none⟩ = some (.int .i64 p.port.no)) :
    Calls Try.prog 59 #[.agg q.vals.toArray, .pointer (some ⟨B, 0, none⟩)] w fun e w' => e = .returned (.bool (decide (q.port = p.port))) ∧ Below w.heap.size w w' := by
  have hd : decide (q.port = p.port) = (decide (q.port.prio = p.port.prio) && decide (q.port.no = p.port.no)) := by
    cases q.port; cases p.port; simp only [Pt.mk.injEq, Bool.decide_and]
  rw [hd]
  clear hd
  simp only [Mem.vals, Pt.vals, List.cons_append, List.nil_append]
  go_enter Try.func59, Try.ntmps59
  go_upto_region 1 with (fail)
  obtain ⟨hA, hfA, lA, hb⟩ := one_box w _ _ _ rfl
  generalize w.alloc _ = W at *
  have h01 := laterc h0 hb hB
  have h11 := laterc h1 hb hB
  clear h0 h1 hfA
  have hq : ∀ (a b c d : Int) (x y : Operand) (W : World), (eqGuard .eql 35 x y (.agg #[.int .i64 a, .int .i64 b]) (.agg #[.int .i64 c, .int .i64 d])).run Try.prog W = .ok () W := fun a b c d x y W => pt_guard ⟨a, b⟩ ⟨c, d⟩ x y W
  have he : ∀ (a b c d : Int) (W : World), (binOp .eql 35 (.agg #[.int .i64 a, .int .i64 b]) (.agg #[.int .i64 c, .int .i64 d])).run Try.prog W = .ok (.bool (decide (a = c) && decide (b = d))) W := fun a b c d W => by
    have := pt_eq ⟨a, b⟩ ⟨c, d⟩ W
    simp only [Pt.mk.injEq, Bool.decide_and] at this
    exact this
  go_wp2_with fail
  go_ret
  exact ⟨rfl, hb⟩
set_option maxRecDepth 100000 in
set_option maxHeartbeats 1000000 in
theorem tw2_any (m n : Node) (sv sv' : Value) (B : Nat) (w : World) (hB : B < w.heap.size) (h0 : Box w B (n.vals sv')) :
    Calls Try.prog 61 #[.agg (m.vals sv).toArray, .pointer (some ⟨B, 0, none⟩)] w fun e w' => e = .returned (.bool (decide (m.br = n.br))) ∧ Below w.heap.size w w' := by
  have he : ∀ (W : World), (binOp .eql 29 (.agg m.br.vals.toArray) (.agg n.br.vals.toArray)).run Try.prog W = .ok (.bool (decide (m.br = n.br))) W := fun W => br_eq m.br n.br W
  have hq : ∀ (x y : Operand) (W : World), (eqGuard .eql 29 x y (.agg m.br.vals.toArray) (.agg n.br.vals.toArray)).run Try.prog W = .ok () W := fun x y W => br_guard .eql m.br n.br x y W
  generalize decide (m.br = n.br) = r at *
  have h0' : ∀ j, w.cell? ⟨B, j, none⟩ = (n.vals sv').toArray[j]? := h0.cell
  clear h0
  simp only [Node.vals, Br.vals, Ad.vals, List.cons_append, List.nil_append] at *
  go_enter Try.func61, Try.ntmps61
  go_upto_region 1 with (fail)
  obtain ⟨hA, hfA, lA, hb⟩ := one_box w _ _ _ rfl
  generalize w.alloc _ = W at *
  have h01 := laterB h0' hb hB
  clear h0' hfA
  go_wp2_with fail
  go_ret
  exact ⟨rfl, hb⟩
end Go.Proofs.Ythpgdipcdllfdaa

/- tree: there, Own, Tells, Hears. -/
import Derived.Test.YthpgdipcdllfdaaPrio
import Derived.Test.YthpgdipcdllfdaaCells
namespace Go.Proofs.Ythpgdipcdllfdaa
open Go.RowKit
def Mem.vals (m : Mem) : List Value := m.port.vals ++ [.int .i64 m.cost, .int .i64 m.lan]
def Node.vals (n : Node) (sv : Value) : List Value := n.br.vals ++ [sv]
set_option maxRecDepth 100000 in
set_option maxHeartbeats 1000000 in
theorem there_yes (n : Node) (A : Option Addr) (len cap k : Nat) (hk : k < len) (hl : len ≤ 8) (w : World) :
    Calls Try.prog 63 #[.agg (n.vals (.slice A len cap)).toArray, .int .i64 (k : Int)] w fun e w' => e = .returned (.bool true) ∧ Below w.heap.size w w' := by
  simp only [Node.vals, Br.vals, Ad.vals, List.cons_append, List.nil_append]
  go_enter Try.func63, Try.ntmps63
  go_wp2_with fail
  all_goals
    go_ret
    exact ⟨by simp, by go_grown⟩
theorem Br.one (x : Br) : ∀ v ∈ x.vals, v.oneCell' = true := fun v hv => by
  simp only [Br.vals, Ad.vals, List.mem_cons, List.not_mem_nil, or_false] at hv
  rcases hv with rfl | rfl | rfl | rfl | rfl | rfl | rfl | rfl <;> rfl
theorem Pt.one (x : Pt) : ∀ v ∈ x.vals, v.oneCell' = true := fun v hv => by
  simp only [Pt.vals, List.mem_cons, List.not_mem_nil, or_false] at hv
  rcases hv with rfl | rfl <;> rfl
theorem Vec.one (x : Vec) : ∀ v ∈ x.vals, v.oneCell' = true := fun v hv => by
  simp only [Vec.vals, List.mem_append, List.mem_cons] at hv
  rcases hv with h | rfl | h | h | h
  · exact x.root.one v h
  · rfl
  · exact x.sender.one v h
  · exact x.port.one v h
  · exact x.at_.one v h
theorem info48 : (Try.prog.info? 48).map (·.size) = some 21 := by kernel_rfl
set_option maxRecDepth 100000 in
set_option maxHeartbeats 1000000 in
theorem own_any (n : Node) (sv : Value) (w : World) :
    Calls Try.prog 49 #[.agg (n.vals sv).toArray] w fun e w' => e = .returned (.agg (ownM n).vals.toArray) ∧ Below w.heap.size w w' := by
  simp only [Node.vals, Br.vals, Ad.vals, List.cons_append, List.nil_append]
  go_enter Try.func49, Try.ntmps49
  go_upto_region 1 with (fail)
  obtain ⟨hA, hB, hfA, hfB, lA, lB, hb⟩ := two_boxes w _ _ _ _ _ rfl
  generalize (w.alloc _).alloc _ = W at *
  have ht := Lib.hid (there_of (n := 21) hB hfB rfl)
  clear hB hfB
  go_wp2_with (
    (with_reducible refine wpList_store_tmp (b := ?b) (ownM n).vals ?hx ?hy ?ht ?hi ?h1 ?hk)
    case hx => rfl
    case hy => rfl
    case ht => exact ht.out
    case hi => exact info48
    case h1 => exact (ownM n).one
    intro W2 hr hb2 _)
  refine ret_cell (cs := (ownM n).vals) rfl rfl hr Try.underlying48 rfl info48 rfl ⟨rfl, hb2 _ _ (by omega) hb⟩
end Go.Proofs.Ythpgdipcdllfdaa

/- slices.Chunk over ints: the iterator's value, and what a loop over it meets. -/
import Derived.Test.YtjekdodboihfhaaDoorMv2
set_option linter.all false
namespace Go.Proofs.YtjekdodboihfhaaDoor
open Go.RowKit Go.Shelf
set_option maxRecDepth 100000 in
set_option maxHeartbeats 4000000 in
theorem chunk0_in (F : Fence) (n : Nat) (hf : F.fn 39) (hro : F.round = none) (l Bs Bn cap : Nat) (A : Option Addr) {α : Type} (J : List α → World → Prop)
    (W : World) (hBs : W.cell? ⟨Bs, 0, none⟩ = some (.slice A 0 cap)) (h0 : J [] W) :
    CallsIn F n Tryd.prog 39 #[.func (.yield l) #[] #[], .pointer (some ⟨Bs, 0, none⟩), .pointer (some ⟨Bn, 0, none⟩)] W fun e W' => (∃ v, e = .returned v) ∧ J [] W' := by
  refine callsIn_of_wp Tryd.func39 rfl hf ?_ hro
  simp only [Tryd.ntmps39, List.size_toArray, List.length_cons, List.length_nil, Nat.reduceAdd, Nat.reduceSub, Array.replicate_succ, Array.replicate_zero, List.push_toArray, List.append_toArray, List.nil_append, List.cons_append]
  gi_wp2
  gi_loopw [4] (fun i wr => i = .int .i64 0 ∧ J [] wr ∧ wr.cell? ⟨Bs, 0, none⟩ = some (.slice A 0 cap)) (fun _ _ => 0)
  case atStart => exact ⟨rfl, h0, hBs⟩
  case round =>
    obtain ⟨rfl, hJs, hc⟩ := hrel
    gi_wp2
    go_end0
    exact ⟨⟨_, rfl⟩, hJs⟩
set_option maxHeartbeats 1000000 in
/-- slices.Chunk(s, 3): both are boxed; the function value captures the boxes. -/
theorem chunk_any (A : Option Addr) (len cap : Nat) (w : World) :
    Calls Tryd.prog 21 #[.slice A len cap, .int .i64 3] w fun e w' => e = .returned (.func (.func 39) #[] #[.pointer (some ⟨w.heap.size, 0, none⟩), .pointer (some ⟨w.heap.size + 1, 0, none⟩)]) ∧ w' = (w.alloc (.cells #[.slice A len cap] 36)).alloc (.cells #[.int .i64 3] 3) := by
  go_enter Tryd.func21, Tryd.ntmps21
  go_wp2_with fail
  go_ret
  exact ⟨by simp, rfl⟩
theorem grown_drew (w : World) : w.grownBy w.drew none := ⟨rfl, rfl, rfl, Nat.le_refl _, fun _ _ _ => rfl⟩
theorem chunk_stops (F : Fence) (n : Nat) (hf : F.fn 39) (hro : F.round = none) (hn : 1 ≤ n) (Bs Bn b off len cap : Nat) (A : Option Addr) (hlen : len ≤ 1000000) (hcap : len ≤ cap) (w : World) (hA : 0 < len → A = some ⟨b, off, none⟩)
    (Kp : World → World → Prop) (hKp : ∀ U V, Kp U V → V.cell? ⟨Bs, 0, none⟩ = U.cell? ⟨Bs, 0, none⟩ ∧ V.cell? ⟨Bn, 0, none⟩ = U.cell? ⟨Bn, 0, none⟩) (hBs0 : Bs < w.heap.size) (hBn0 : Bn < w.heap.size) (hBs : w.cell? ⟨Bs, 0, none⟩ = some (.slice A len cap)) (hBn : w.cell? ⟨Bn, 0, none⟩ = some (.int .i64 3)) :
    SeqStopsK F n Tryd.prog 39 #[.pointer (some ⟨Bs, 0, none⟩), .pointer (some ⟨Bn, 0, none⟩)] (fun x : Fin ((len + 2) / 3) => #[pieceK b off len x]) Kp (fun ys => ys = upK ((len + 2) / 3) ((len + 2) / 3)) (fun pre => ∃ k, k ≤ (len + 2) / 3 ∧ pre = upK ((len + 2) / 3) k) ((len + 2) / 3) w := fun l J Jx W hW hJ _ hY h0 => by
  have c1 := (hW.cell (p := ⟨Bs, 0, none⟩) hBs0).trans hBs
  have c2 := (hW.cell (p := ⟨Bn, 0, none⟩) hBn0).trans hBn
  rcases Nat.eq_zero_or_pos len with h | h
  · subst h
    exact (chunk0_in F n hf hro l Bs Bn cap A J W c1 h0).mono fun e W' ⟨he, hj⟩ => ⟨he, .inl ⟨_, rfl, hj⟩⟩
  · rw [hA h] at c1
    exact chunk1_in F n hf hro hn l Bs Bn b off len cap hlen hcap Kp hKp J Jx hY (fun pre W1 hj => hJ pre W1 _ none hj (grown_drew _) (fun r e => by cases e)) W c1 c2 h0
end Go.Proofs.YtjekdodboihfhaaDoor

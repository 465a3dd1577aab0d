/- mvrp.Write: attributes in memory; the pieces of a row of events. -/
import Derived.Test.YtjekdodboihfhaaDoorMv4
import Derived.Test.YtjekdodboihfhaaDoorMust
set_option linter.all false
namespace Go.Proofs.YtjekdodboihfhaaDoor
open Go.RowKit Go.Shelf
/-- An attribute in memory: with the slice value of its events. -/
structure ARow where
  a : Av
  sv : Value
/-- The events of all lie in memory. -/
def EvsAt (w : World) (R : List ARow) : Prop := ∀ r ∈ R, ∃ A cap, r.sv = .slice A r.a.evs.length cap ∧ r.a.evs.length ≤ cap ∧ SlRow w w.heap.size 1 A (intv r.a.evs)
theorem EvsAt.below {w W : World} {R : List ARow} (h : EvsAt w R) (hb : Below w.heap.size w W) : EvsAt W R := fun r hr => by
  obtain ⟨A, cap, e, hc, hs⟩ := h r hr
  exact ⟨A, cap, e, hc, (hs.below hb (Nat.le_refl _)).more hb.size⟩
def ARow.vals (r : ARow) : List Value := r.a.vals r.sv
theorem ARow.len (r : ARow) : r.vals.length = 3 := rfl
/-- What k pieces are as bytes. -/
def packN (es : List Int) (k : Nat) : List UInt8 := packE (es.take (3 * k))
theorem packE_app : ∀ (es : List Int) (k : Nat), 3 * k ≤ es.length → packE es = packE (es.take (3 * k)) ++ packE (es.drop (3 * k))
  | es, 0, _ => by simp [packE]
  | es, k + 1, h => by
    match es, h with
    | a :: b :: c :: r, h =>
      have h' : 3 * k ≤ r.length := by simp only [List.length_cons] at h; omega
      have e1 : (a :: b :: c :: r).take (3 * (k + 1)) = a :: b :: c :: r.take (3 * k) := by
        rw [show 3 * (k + 1) = 3 * k + 1 + 1 + 1 by omega]; rfl
      have e2 : (a :: b :: c :: r).drop (3 * (k + 1)) = r.drop (3 * k) := by
        rw [show 3 * (k + 1) = 3 * k + 1 + 1 + 1 by omega]; rfl
      rw [e1, e2]
      simp only [packE, List.append_assoc]
      rw [← packE_app r k h']
    | [], h => simp at h
    | [_], h => simp at h; omega
    | [_, _], h => simp at h; omega
theorem packN_all (es : List Int) : packN es ((es.length + 2) / 3) = packE es := by
  unfold packN
  rw [List.take_of_length_le (by omega)]
/-- The three numbers that the loop's array holds. -/
def trio (es : List Int) (k i : Nat) : Int := if 3 * k + i < es.length then (es[3 * k + i]?).getD 0 else 0
theorem packN_succ (es : List Int) (k : Nat) (h : 3 * k < es.length) : packN es (k + 1) = packN es k ++ three (trio es k 0) (trio es k 1) (trio es k 2) := by
  unfold packN
  have h1 := packE_app (es.take (3 * (k + 1))) k (by rw [List.length_take]; omega)
  rw [h1, List.take_take, Nat.min_eq_left (by omega), List.drop_take, show 3 * (k + 1) - 3 * k = 3 by omega]
  congr 1
  have hd : ∀ i, (es.drop (3 * k))[i]? = es[3 * k + i]? := fun i => List.getElem?_drop
  have hlen : (es.drop (3 * k)).length = es.length - 3 * k := List.length_drop ..
  unfold trio
  rw [← hd 0, ← hd 1, ← hd 2]
  have c0 : (3 * k + 0 < es.length) := by omega
  rw [if_pos c0]
  generalize es.drop (3 * k) = t at *
  match t, hlen with
  | [], hlen => simp at hlen; omega
  | [a], hlen =>
    simp only [List.length_cons, List.length_nil] at hlen
    rw [if_neg (by omega), if_neg (by omega)]
    simp [packE]
  | [a, b], hlen =>
    simp only [List.length_cons, List.length_nil] at hlen
    rw [if_pos (by omega), if_neg (by omega)]
    simp [packE]
  | a :: b :: c :: r, hlen =>
    simp only [List.length_cons] at hlen
    rw [if_pos (by omega), if_pos (by omega)]
    simp [packE]
/-- What pieces are as bytes. -/
def bytesOf {N : Nat} (es : List Int) (pre : List (Fin N)) : List UInt8 := pre.flatMap fun x => three (trio es x.1 0) (trio es x.1 1) (trio es x.1 2)
theorem bytesOf_snoc {N : Nat} (es : List Int) (pre : List (Fin N)) (x : Fin N) : bytesOf es (pre ++ [x]) = bytesOf es pre ++ three (trio es x.1 0) (trio es x.1 1) (trio es x.1 2) := by simp [bytesOf]
theorem bytesOf_len {N : Nat} (es : List Int) : ∀ pre : List (Fin N), (bytesOf es pre).length = pre.length
  | [] => rfl
  | x :: pre => by
    have := bytesOf_len es pre
    simp only [bytesOf, List.flatMap_cons, List.length_append, three_len, List.length_cons] at *
    omega
theorem bytesOf_up (es : List Int) {N : Nat} (hN : N ≤ (es.length + 2) / 3) : ∀ k, k ≤ N → bytesOf es (upK N k) = packN es k
  | 0, _ => by simp [upK, bytesOf, packN, packE]
  | k + 1, h => by rw [upK_succ (by omega), bytesOf_snoc, bytesOf_up es hN k (by omega), packN_succ es k (by omega)]
end Go.Proofs.YtjekdodboihfhaaDoor

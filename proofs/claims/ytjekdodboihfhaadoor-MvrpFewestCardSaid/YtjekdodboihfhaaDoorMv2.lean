/- slices.Chunk over ints, as an iterator. -/
import Derived.Test.YtjekdodboihfhaaDoorMv1
import Derived.RangeFuncNested
import Derived.RangeFuncBound
import Derived.RangeFuncCalls
import Derived.RangeFuncLeaves
import Derived.RangeFuncFrom
import Derived.RangeFuncBox
import Derived.Shelf.Abstract
import Derived.OwnWalkIn
import Derived.TacticsInMore
import Derived.LoopNIn
import Derived.LoopIn
set_option linter.all false
namespace Go.Proofs.YtjekdodboihfhaaDoor
open Go.RowKit Go.Shelf
/-- What has come when k rounds are over: begin and length of each piece. -/
def upK (N : Nat) : Nat → List (Fin N)
  | 0 => []
  | k + 1 => upK N k ++ (if h : k < N then [⟨k, h⟩] else [])
theorem upK_succ {N k : Nat} (h : k < N) : upK N (k + 1) = upK N k ++ [⟨k, h⟩] := by simp [upK, h]
theorem upK_len {N : Nat} : ∀ {k : Nat}, k ≤ N → (upK N k).length = k
  | 0, _ => rfl
  | k + 1, h => by rw [upK_succ (by omega), List.length_append, upK_len (by omega)]; rfl
def pieceV (b off : Nat) (x : Nat × Nat) : Value := .slice (some ⟨b, off + x.1, none⟩) x.2 x.2
def pieceK (b off len : Nat) (x : Fin ((len + 2) / 3)) : Value := pieceV b off (3 * x.1, min 3 (len - 3 * x.1))
set_option maxRecDepth 100000 in
set_option maxHeartbeats 4000000 in
theorem chunk1_in (F : Fence) (n : Nat) (hf : F.fn 39) (hro : F.round = none) (hn : 1 ≤ n) (l Bs Bn b off len cap : Nat) (hlen : len ≤ 1000000) (hcap : len ≤ cap) (Kp : World → World → Prop) (hKp : ∀ U V, Kp U V → V.cell? ⟨Bs, 0, none⟩ = U.cell? ⟨Bs, 0, none⟩ ∧ V.cell? ⟨Bn, 0, none⟩ = U.cell? ⟨Bn, 0, none⟩) (J Jx : List (Fin ((len + 2) / 3)) → World → Prop)
    (hY : ∀ pre x W, J pre W → pre.length < (len + 2) / 3 → YieldAt F (n - 1) Tryd.prog l #[pieceK b off len x] W fun e W' =>
      (e = .returned (.bool true) ∧ J (pre ++ [x]) W' ∧ Kp W W') ∨ (e = .returned (.bool false) ∧ Jx (pre ++ [x]) W'))
    (hJd : ∀ pre W, J pre W → J pre W.drew) (W : World) (hBs : W.cell? ⟨Bs, 0, none⟩ = some (.slice (some ⟨b, off, none⟩) len cap)) (hBn : W.cell? ⟨Bn, 0, none⟩ = some (.int .i64 3)) (h0 : J [] W) :
    CallsIn F n Tryd.prog 39 #[.func (.yield l) #[] #[], .pointer (some ⟨Bs, 0, none⟩), .pointer (some ⟨Bn, 0, none⟩)] W fun e W' => (∃ v, e = .returned v) ∧
      ((∃ ys, ys = upK ((len + 2) / 3) ((len + 2) / 3) ∧ J ys W') ∨ (∃ pre, (∃ k, k ≤ (len + 2) / 3 ∧ pre = upK ((len + 2) / 3) k) ∧ Jx pre W')) := by
  refine callsIn_of_wp Tryd.func39 rfl hf ?_ hro
  simp only [Tryd.ntmps39, List.size_toArray, List.length_cons, List.length_nil, Nat.reduceAdd, Nat.reduceSub, Array.replicate_succ, Array.replicate_zero, List.push_toArray, List.append_toArray, List.nil_append, List.cons_append]
  gi_wp2
  gi_loopw [4] (fun i wr => ∃ k : Nat, k ≤ (len + 2) / 3 ∧ i = .int .i64 ((3 * k : Nat) : Int) ∧ J (upK ((len + 2) / 3) k) wr ∧ wr.cell? ⟨Bs, 0, none⟩ = some (.slice (some ⟨b, off, none⟩) len cap) ∧ wr.cell? ⟨Bn, 0, none⟩ = some (.int .i64 3))
    (fun i _ => len + 3 - (intOf i).toNat)
  case atStart => exact ⟨0, Nat.zero_le _, rfl, h0, hBs, hBn⟩
  case round =>
    obtain ⟨k, hk, rfl, hJs, c1, c2⟩ := hrel
    by_cases hlt : 3 * k < len
    · have hlti : (3 : Int) * (k : Int) < (len : Int) := by omega
      have hkN : k < (len + 2) / 3 := by omega
      obtain ⟨q, hq⟩ : ∃ q, min 3 (len - 3 * k) = q := ⟨_, rfl⟩
      obtain ⟨fn, tmps, assign, body, hy, hR⟩ := hY _ ⟨k, hkN⟩ wr.drew (hJd _ _ hJs) (by rw [upK_len (by omega)]; omega)
      dsimp only [pieceK, pieceV] at hy
      rw [hq] at hy
      have mixed : Tryd.prog.follows Departure.mixedOrders = true := by kernel_rfl
      have h0i : (0 : Int) ≤ 3 * (k : Int) := by omega
      have hle : (3 : Int) * (k : Int) ≤ (len : Int) := by omega
      have hcp : ¬ (cap = 3 * k) := by omega
      have htn : ((3 : Int) * (k : Int)).toNat = 3 * k := by omega
      have hmin : min (3 : Int) ((len - 3 * k : Nat) : Int) = (q : Int) := by omega
      have hq1 : 1 ≤ q ∧ 3 * k + q ≤ len := by omega
      have d1 : wr.drew.cell? ⟨Bs, 0, none⟩ = some (.slice (some ⟨b, off, none⟩) len cap) := c1
      have d2 : wr.drew.cell? ⟨Bn, 0, none⟩ = some (.int .i64 3) := c2
      have hsum : ((3 : Int) * (k : Int) + (q : Int)).toNat = 3 * k + q := by omega
      have hs1 : (3 : Int) * (k : Int) ≤ 3 * (k : Int) + (q : Int) := by omega
      have hs2 : (3 : Int) * (k : Int) + (q : Int) ≤ (cap : Int) := by omega
      have hs3 : (0 : Int) ≤ 3 * (k : Int) + (q : Int) := by omega
      have hs4 : 3 * k + q - 3 * k = q := by omega
      have hq0 : ¬ q = 0 := by omega
      gi_wp2
      gi_region
      all_goals gi_wp2
      all_goals
        refine hR.mono ?_
        rintro e W3 (⟨rfl, hJ3, hk3⟩ | ⟨rfl, hJx3⟩)
        · have e1 : W3.cell? ⟨Bs, 0, none⟩ = some (.slice (some ⟨b, off, none⟩) len cap) := (hKp _ _ hk3).1.trans d1
          have e2 : W3.cell? ⟨Bn, 0, none⟩ = some (.int .i64 3) := (hKp _ _ hk3).2.trans d2
          gi_wp2
          go_roundw
          case rel => exact ⟨k + 1, by omega, by go_num, by rw [upK_succ hkN]; exact hJ3, e1, e2⟩
          case measure => simp [intOf]; omega
        · gi_wp2
          refine bodyPost_ret (results_none rfl _ _ _) rfl ?_
          exact ⟨⟨_, rfl⟩, .inr ⟨_, ⟨k + 1, by omega, rfl⟩, by rw [upK_succ hkN]; exact hJx3⟩⟩
    · have hk' : k = (len + 2) / 3 := by omega
      have hlti : ¬ (3 : Int) * (k : Int) < (len : Int) := by omega
      gi_wp2
      go_end0
      have hu : upK ((len + 2) / 3) k = upK ((len + 2) / 3) ((len + 2) / 3) := congrArg _ hk'
      exact ⟨⟨_, rfl⟩, .inl (hu ▸ hJs)⟩
end Go.Proofs.YtjekdodboihfhaaDoor

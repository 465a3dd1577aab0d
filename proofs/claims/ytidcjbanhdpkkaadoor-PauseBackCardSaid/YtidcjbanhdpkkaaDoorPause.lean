/- pause.Right, pause.Long. -/
import Derived.Test.YtidcjbanhdpkkaaDoorRows
import Derived.Test.YtidcjbanhdpkkaaDoorKit
import Derived.Test.YtidcjbanhdpkkaaDoorWireAid
namespace Go.Proofs.YtidcjbanhdpkkaaDoor
open Go.RowKit
def pOk (b : Bool) (i : Nat) (t : Int) : Bool := !(decide (t < 0) || decide (65535 < t) || (!b && decide (0 < i) && t != 0))
def pauseRight (b : Bool) (en : Int) (ts : List Int) : Bool := (List.range 8).all (fun i => pOk b i (ts.getD i 0)) && (decide (0 ≤ en) && decide (en ≤ 255) && (b || en == 0))
theorem pause_index (t0 t1 t2 t3 t4 t5 t6 t7 : Int) (k : Nat) (hk : k < 8) (W : World) :
    (Instr.index 58 (.agg #[.int .i64 t0, .int .i64 t1, .int .i64 t2, .int .i64 t3, .int .i64 t4, .int .i64 t5, .int .i64 t6, .int .i64 t7]) (.int .i64 (k : Int))).run Tryd.prog W = .ok (.int .i64 ([t0, t1, t2, t3, t4, t5, t6, t7].getD k 0)) W := by
  rcases k with _ | _ | _ | _ | _ | _ | _ | _ | k
  all_goals first | (exfalso; omega) | kernel_rfl
theorem pause_no (b : Bool) (en : Int) (ts : List Int) (k : Nat) (hk : k < 8) (h : pOk b k (ts.getD k 0) = false) : pauseRight b en ts = false := by
  unfold pauseRight
  have : (List.range 8).all (fun i => pOk b i (ts.getD i 0)) = false := by
    rw [List.all_eq_false]
    exact ⟨k, List.mem_range.2 hk, by simpa using h⟩
  rw [this]; rfl
theorem pause_yes (b : Bool) (en : Int) (ts : List Int) (h : ∀ j < 8, pOk b j (ts.getD j 0) = true) : pauseRight b en ts = (decide (0 ≤ en) && decide (en ≤ 255) && (b || en == 0)) := by
  unfold pauseRight
  have : (List.range 8).all (fun i => pOk b i (ts.getD i 0)) = true := by
    rw [List.all_eq_true]
    exact fun k hk => h k (List.mem_range.1 hk)
  rw [this]; rfl
theorem lt_succ_all {p : Nat → Prop} {k : Nat} (h : ∀ j < k, p j) (hk : p k) : ∀ j < k + 1, p j := by
  intro j hj
  rcases Nat.lt_or_ge j k with h' | h'
  · exact h j h'
  · have : j = k := by omega
    subst this; exact hk
set_option maxRecDepth 100000 in
set_option maxHeartbeats 1000000 in
theorem pauseRight_false (en t0 t1 t2 t3 t4 t5 t6 t7 : Int) (w : World) :
    Calls Tryd.prog 23 #[.agg #[.bool false, .int .i64 en, .int .i64 t0, .int .i64 t1, .int .i64 t2, .int .i64 t3, .int .i64 t4, .int .i64 t5, .int .i64 t6, .int .i64 t7]] w fun e w' =>
      e = .returned (.bool (pauseRight false en [t0, t1, t2, t3, t4, t5, t6, t7])) ∧ Below w.heap.size w w' := by
  have hidx := pause_index t0 t1 t2 t3 t4 t5 t6 t7
  have Hidx := Lib.hid hidx
  clear hidx
  go_enter Tryd.func23, Tryd.ntmps23
  go_wp2_with fail
  go_loop [7] (fun i => ∃ k : Nat, k ≤ 8 ∧ i = .int .i64 k ∧ Hid (∀ j < k, pOk false j ([t0, t1, t2, t3, t4, t5, t6, t7].getD j 0) = true)) (fun i => 8 - (intOf i).toNat)
  case atStart => exact ⟨0, by omega, rfl, fun j hj => by omega⟩
  case round =>
    obtain ⟨k, hk, rfl, HK⟩ := hrel
    by_cases hlt : k < 8
    · have hx := Hidx.out k hlt
      generalize ht : [t0, t1, t2, t3, t4, t5, t6, t7].getD k 0 = tk at hx
      have Ht := Lib.hid ht
      clear ht
      go_wp2_with fail
      all_goals first
        | (go_round
           case rel => exact ⟨k + 1, by omega, by go_num, lt_succ_all HK.out (by rw [Ht.out]; unfold pOk; simp at *; omega)⟩
           case measure => simp [intOf]; omega)
        | (go_ret
           refine ⟨?_, (Below.refl _ w).alloc (Nat.le_refl _) _⟩
           rw [pause_no _ _ _ k hlt (by rw [Ht.out]; unfold pOk; simp at *; omega)]
           rfl)
        | (go_ways; sorry)
    · have hy := pause_yes false en [t0, t1, t2, t3, t4, t5, t6, t7] (fun j hj => HK.out j (by omega))
      have Hy := Lib.hid hy
      clear hy
      go_wp2_with fail
      all_goals first
        | (go_ret
           refine ⟨?_, (Below.refl _ w).alloc (Nat.le_refl _) _⟩
           rw [Hy.out]
           congr 2
           simp [*]
           try omega)
        | (go_ways; sorry)
set_option maxRecDepth 100000 in
set_option maxHeartbeats 1000000 in
theorem pauseRight_true (en t0 t1 t2 t3 t4 t5 t6 t7 : Int) (w : World) :
    Calls Tryd.prog 23 #[.agg #[.bool true, .int .i64 en, .int .i64 t0, .int .i64 t1, .int .i64 t2, .int .i64 t3, .int .i64 t4, .int .i64 t5, .int .i64 t6, .int .i64 t7]] w fun e w' =>
      e = .returned (.bool (pauseRight true en [t0, t1, t2, t3, t4, t5, t6, t7])) ∧ Below w.heap.size w w' := by
  have hidx := pause_index t0 t1 t2 t3 t4 t5 t6 t7
  have Hidx := Lib.hid hidx
  clear hidx
  go_enter Tryd.func23, Tryd.ntmps23
  go_wp2_with fail
  go_loop [7] (fun i => ∃ k : Nat, k ≤ 8 ∧ i = .int .i64 k ∧ Hid (∀ j < k, pOk true j ([t0, t1, t2, t3, t4, t5, t6, t7].getD j 0) = true)) (fun i => 8 - (intOf i).toNat)
  case atStart => exact ⟨0, by omega, rfl, fun j hj => by omega⟩
  case round =>
    obtain ⟨k, hk, rfl, HK⟩ := hrel
    by_cases hlt : k < 8
    · have hx := Hidx.out k hlt
      generalize ht : [t0, t1, t2, t3, t4, t5, t6, t7].getD k 0 = tk at hx
      have Ht := Lib.hid ht
      clear ht
      go_wp2_with fail
      all_goals first
        | (go_round
           case rel => exact ⟨k + 1, by omega, by go_num, lt_succ_all HK.out (by rw [Ht.out]; unfold pOk; simp at *; omega)⟩
           case measure => simp [intOf]; omega)
        | (go_ret
           refine ⟨?_, (Below.refl _ w).alloc (Nat.le_refl _) _⟩
           rw [pause_no _ _ _ k hlt (by rw [Ht.out]; unfold pOk; simp at *; omega)]
           rfl)
        | (go_ways; sorry)
    · have hy := pause_yes true en [t0, t1, t2, t3, t4, t5, t6, t7] (fun j hj => HK.out j (by omega))
      have Hy := Lib.hid hy
      clear hy
      go_wp2_with fail
      all_goals first
        | (go_ret
           refine ⟨?_, (Below.refl _ w).alloc (Nat.le_refl _) _⟩
           rw [Hy.out]
           congr 2
           simp [*]
           try omega)
        | (go_ways; sorry)
theorem pauseRight_any (b : Bool) (en t0 t1 t2 t3 t4 t5 t6 t7 : Int) (w : World) :
    Calls Tryd.prog 23 #[.agg #[.bool b, .int .i64 en, .int .i64 t0, .int .i64 t1, .int .i64 t2, .int .i64 t3, .int .i64 t4, .int .i64 t5, .int .i64 t6, .int .i64 t7]] w fun e w' =>
      e = .returned (.bool (pauseRight b en [t0, t1, t2, t3, t4, t5, t6, t7])) ∧ Below w.heap.size w w' := by
  cases b
  · exact pauseRight_false en t0 t1 t2 t3 t4 t5 t6 t7 w
  · exact pauseRight_true en t0 t1 t2 t3 t4 t5 t6 t7 w
end Go.Proofs.YtidcjbanhdpkkaaDoor

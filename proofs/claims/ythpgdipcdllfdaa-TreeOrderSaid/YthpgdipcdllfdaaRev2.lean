/- slices.Clone and slices.Reverse at numbers, and at ports, in rows of one's own. -/
import Derived.Test.YthpgdipcdllfdaaRev1
namespace Go.Proofs.Ythpgdipcdllfdaa
open Go.RowKit
theorem own_base_heap {w : World} {base size : Nat} {e : TypeId} {v : Value} {xs : List Value} (h : w.ownsRow base e size v 0 xs) (W : World) (hb : ∀ g, v.ownBlock = some g → W.heap[g]? = w.heap[g]?) : W.ownsRow base e size v 0 xs := by
  refine ⟨h.1, ?_⟩
  rcases h.2 with h' | ⟨g, cap, cur, e1, e2, e3, r⟩
  · exact .inl h'
  · exact .inr ⟨g, cap, cur, e1, e2, (hb g (by rw [e1]; rfl)).trans e3, r⟩
set_option maxRecDepth 100000 in
set_option maxHeartbeats 1000000 in
theorem revM_zero (A : Option Addr) (cap : Nat) (w : World) :
    Calls Try.prog 28 #[.slice A 0 cap] w fun e w' => e = .returned (.tuple #[]) ∧ w = w' := by
  go_enter Try.func28, Try.ntmps28
  go_wp2_with fail
  refine wp_loop_rounds 1 ?_
  rw [rounds_succ]
  go_wp2_with fail
  exact bodyPost_end (by simp [results, Try.results28, go_sem]) rfl ⟨rfl, rfl⟩
theorem revM_any (ms : List Mem) (A : Option Addr) (cap n base : Nat) (hn : ms.length = n) (h8 : n ≤ 8) (w : World) (h : w.ownsRow base 37 4 (.slice A n cap) n (mrows ms)) :
    Calls Try.prog 28 #[.slice A n cap] w fun e w' => e = .returned (.tuple #[]) ∧ w'.ownsRow base 37 4 (.slice A n cap) n (mrows ms.reverse) ∧ ∃ g, base ≤ g ∧ But g w w' := by
  rcases Nat.eq_zero_or_pos n with h0 | h0
  · subst h0
    refine (revM_zero A cap w).mono ?_
    rintro e w' ⟨rfl, rfl⟩
    obtain rfl := List.length_eq_zero_iff.1 hn
    exact ⟨rfl, h, base, Nat.le_refl _, But.refl _ _⟩
  · obtain ⟨g, c, e, _, hg, _⟩ := own_cells h h0
    injection e with e1 _ e3
    subst e1 e3
    exact (revM_some ms g cap n base hn h0 h8 w h).mono fun e w' ⟨a, b, c⟩ => ⟨a, b, g, hg, c⟩
theorem clone_ints (xs : List Int) (A : Option Addr) (n c : Nat) (hn : xs.length = n) (h : n ≤ 1000) (w : World) (hi : IntsAt w A xs) :
    Calls Try.prog 29 #[.slice A n c] w fun e w' => ∃ v', e = .returned v' ∧ w'.ownsRow w.heap.size 3 1 v' n (intVals xs) ∧ Below w.heap.size w w' := by
  rcases Nat.eq_zero_or_pos n with h0 | h0
  · subst h0
    obtain rfl := List.length_eq_zero_iff.1 hn
    cases A with
    | none =>
      refine (Try.slices_Clone_int_nil 0 c w).mono ?_
      rintro e w' ⟨rfl, rfl⟩
      exact ⟨_, rfl, World.ownsRow_nil _ _ _ _, Below.refl _ _⟩
    | some a =>
      refine (Try.slices_Clone_int_zero a c w).mono ?_
      rintro e w' ⟨v', rfl, ho, _, hb⟩
      exact ⟨v', rfl, ho, hb⟩
  · obtain ⟨g, rfl, _, hk⟩ := hi (by omega)
    refine (Try.slices_Clone_int g 0 n c xs w (by omega) (by omega) (fun j hj => by rw [Nat.zero_add]; exact hk j hj)).mono ?_
    rintro e w' ⟨v', rfl, ho, _, hb⟩
    rw [List.take_of_length_le (by omega)] at ho
    exact ⟨v', rfl, ho, hb⟩
theorem rev_ints (xs : List Int) (A : Option Addr) (n c base : Nat) (hn : xs.length = n) (h : n ≤ 1000) (w : World) (ho : w.ownsRow base 3 1 (.slice A n c) n (intVals xs)) :
    Calls Try.prog 30 #[.slice A n c] w fun e w' => e = .returned (.tuple #[]) ∧ w'.ownsRow base 3 1 (.slice A n c) n (intVals xs.reverse) ∧ ∃ g, base ≤ g ∧ But g w w' := by
  rcases Nat.eq_zero_or_pos n with h0 | h0
  · subst h0
    refine (Try.slices_Reverse_int_empty A c w).mono ?_
    rintro e w' ⟨rfl, rfl⟩
    obtain rfl := List.length_eq_zero_iff.1 hn
    exact ⟨rfl, ho, base, Nat.le_refl _, But.refl _ _⟩
  · obtain ⟨A2, c2, e, _, hk⟩ := own_ints_at ho hn.symm
    injection e with e1 _ e3
    subst e1 e3
    obtain ⟨g, rfl, hg, hk⟩ := hk h0
    have hlt := own_lt ho
    have hf := own_frozen ho
    refine (Try.slices_Reverse_int_cells g 0 n c xs w (by omega) (by omega) (fun j hj => by rw [Nat.zero_add]; exact hk j (by omega)) (fun j _ => by rw [Nat.zero_add]; exact hf j)).mono ?_
    rintro e w' ⟨rfl, q, rfl⟩
    have hq : (w.drewN q).ownsRow base 3 1 (.slice (some ⟨g, 0, none⟩) n c) n (intVals xs) := ho
    rw [List.take_of_length_le (by omega)]
    obtain ⟨L, hB, hL, hW⟩ := own_sets hq (o := 0) (intVals xs.reverse) (by unfold intVals; simp; omega)
    have hW2 := hW _ (hB.set (intVals xs.reverse) 0 hL)
    have hl : (intVals xs.reverse).length = n := by unfold intVals; simp; omega
    rw [List.take_zero, List.nil_append, List.drop_of_length_le (by rw [hl]; unfold intVals; simp; omega), List.append_nil] at hW2
    exact ⟨rfl, hW2, g, hlt.1, (⟨rfl, rfl, rfl, Nat.le_refl _, fun _ _ _ => rfl⟩ : But g w (w.drewN q)).only (Only.setCells _ _ ⟨rfl, rfl, rfl, rfl, fun _ _ => rfl⟩)⟩
end Go.Proofs.Ythpgdipcdllfdaa

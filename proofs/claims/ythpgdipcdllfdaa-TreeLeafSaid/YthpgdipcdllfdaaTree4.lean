/- prio.Right, prio.Port, the closures of Check and nets. -/
import Derived.Test.YthpgdipcdllfdaaTree3
namespace Go.Proofs.Ythpgdipcdllfdaa
open Go.RowKit
theorem ret_bool {a b : Bool} (h : a = true ↔ b = true) : Ending.returned (.bool a) = .returned (.bool b) := by rw [Bool.eq_iff_iff.2 h]
set_option maxRecDepth 100000 in
set_option maxHeartbeats 1000000 in
theorem right_any (b : Br) (w : World) :
    Calls Try.prog 40 #[.agg b.vals.toArray] w fun e w' => e = .returned (.bool (rightB b)) ∧ Below w.heap.size w w' := by
  simp only [Br.vals, Ad.vals]
  by_cases c1 : 0 ≤ b.prio
  · by_cases c2 : b.prio ≤ 61440
    · by_cases c3 : b.prio % 4096 = 0
      · by_cases c4 : 0 ≤ b.ext
        · have e : rightB b = decide (b.ext ≤ 4095) := by simp [rightB, c1, c2, c3, c4]
          rw [e]
          have c3' : (b.prio % 4096 == 0) = true := by simpa using c3
          clear e
          go_enter Try.func40, Try.ntmps40
          go_wp2_with fail
          go_ret
          exact ⟨rfl, by go_grown⟩
        · have e : rightB b = false := by simp [rightB]; omega
          rw [e]
          have c3' : (b.prio % 4096 == 0) = true := by simpa using c3
          clear e
          go_enter Try.func40, Try.ntmps40
          go_wp2_with fail
          go_ret
          exact ⟨rfl, by go_grown⟩
      · have e : rightB b = false := by simp [rightB]; omega
        rw [e]
        have c3' : (b.prio % 4096 == 0) = false := by simpa using c3
        clear e
        go_enter Try.func40, Try.ntmps40
        go_wp2_with fail
        go_ret
        exact ⟨rfl, by go_grown⟩
    · have e : rightB b = false := by simp [rightB]; omega
      rw [e]
      clear e
      go_enter Try.func40, Try.ntmps40
      go_wp2_with fail
      go_ret
      exact ⟨rfl, by go_grown⟩
  · have e : rightB b = false := by simp [rightB]; omega
    rw [e]
    clear e
    go_enter Try.func40, Try.ntmps40
    go_wp2_with fail
    go_ret
    exact ⟨rfl, by go_grown⟩
set_option maxRecDepth 100000 in
set_option maxHeartbeats 1000000 in
theorem port_any (p : Pt) (w : World) :
    Calls Try.prog 42 #[.agg p.vals.toArray] w fun e w' => e = .returned (.bool (rightP p)) ∧ Below w.heap.size w w' := by
  simp only [Pt.vals]
  by_cases c3 : p.prio % 16 = 0
  all_goals
    have c3' : (p.prio % 16 == 0) = decide (p.prio % 16 = 0) := by rfl
    simp only [c3, decide_true, decide_false] at c3'
    go_enter Try.func42, Try.ntmps42
    go_wp2_with fail
    all_goals
      go_ret
      refine ⟨ret_bool ?_, by go_grown⟩
      simp [rightP, c3]
      try omega
def badM (m : Mem) : Bool := !rightM m
theorem badM_eq (m : Mem) : badM m = (!rightP m.port || decide (m.cost < 1) || decide (200000000 < m.cost) || decide (m.lan < 0) || decide (63 < m.lan)) := by
  unfold badM rightM
  rw [Bool.eq_iff_iff]
  cases rightP m.port <;> simp <;> omega
set_option maxRecDepth 100000 in
set_option maxHeartbeats 1000000 in
/-- Check's closure. -/
theorem chk_any (m : Mem) (w : World) :
    Calls Try.prog 41 #[.agg m.vals.toArray] w fun e w' => e = .returned (.bool (badM m)) ∧ Below w.heap.size w w' := by
  rw [badM_eq]
  simp only [Mem.vals, Pt.vals, List.cons_append, List.nil_append]
  go_enter Try.func41, Try.ntmps41
  go_upto_region 1 with (fail)
  obtain ⟨hA, hfA, lA, hb⟩ := one_box w _ _ _ rfl
  generalize w.alloc _ = W at *
  go_wp2_with fail
  refine (port_any m.port _).mono ?_
  rintro e w1 ⟨rfl, hb1⟩
  have hA1 := later hA hb1 lA
  have hb2 := hb.trans (hb1.mono hb.size)
  clear hA hfA lA hb hb1
  cases hr : rightP m.port
  all_goals
    have Hr := Lib.hid hr
    clear hr
    go_wp2_with fail
    all_goals
      go_ret
      refine ⟨ret_bool ?_, hb2⟩
      simp [Hr.out]
      try omega
set_option maxRecDepth 100000 in
set_option maxHeartbeats 1000000 in
/-- nets' closure. -/
theorem nets1_any (m : Mem) (w : World) :
    Calls Try.prog 39 #[.agg m.vals.toArray] w fun e w' => e = .returned (.bool (decide (m.lan < 0) || decide (63 < m.lan) || decide (m.cost < 1) || decide (200000000 < m.cost))) ∧ Below w.heap.size w w' := by
  simp only [Mem.vals, Pt.vals, List.cons_append, List.nil_append]
  go_enter Try.func39, Try.ntmps39
  go_wp2_with fail
  all_goals
    go_ret
    refine ⟨ret_bool ?_, by go_grown⟩
    simp
    try omega
end Go.Proofs.Ythpgdipcdllfdaa

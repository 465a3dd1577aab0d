/- prio.Better, prio.Less. -/
import Derived.Test.YtkicbabfgahmkaaDoorPrio7
set_option linter.all false
namespace Go.Proofs.YtkicbabfgahmkaaDoor
open Go.RowKit
set_option maxRecDepth 100000 in
set_option maxHeartbeats 1000000 in
theorem better_any (a b : Vec) (w : World) :
    Calls Tryd.prog 42 #[.agg a.vals.toArray, .agg b.vals.toArray] w fun e w' => e = .returned (.bool (better a b)) ∧ Below w.heap.size w w' := by
  have ho := better_eq a b
  have Ho := Lib.hid ho
  clear ho
  go_enter Tryd.func42, Tryd.ntmps42
  simp only [Vec.vals, Br.vals, Ad.vals, Pt.vals, List.cons_append, List.nil_append]
  go_wp2_with fail
  obtain ⟨hA, hB, _, _, lA, lB, hb⟩ := two_boxes w _ _ _ _ _ rfl
  generalize (w.alloc _).alloc _ = W at *
  refine wp_region_ext_tail 25 (by kernel_rfl) (by kernel_rfl) ?_
  simp only [List.take_succ_cons, List.take_zero, List.drop_succ_cons, List.drop_zero]
  repeat (go_big_quiet_step (fail))
  go_big_quiet_step ((go_at_call 56; exact Calls.ext _ (order_any a.root b.root _)))
  repeat (go_big_quiet_step (fail))
  go_big_quiet_step ((go_at_call 58; exact Calls.ext_eq _ (Tryd.cmp_Compare_int _ _ _)))
  repeat (go_big_quiet_step (fail))
  go_big_quiet_step ((go_at_call 56; exact Calls.ext _ (order_any a.sender b.sender _)))
  repeat (go_big_quiet_step (fail))
  go_big_quiet_step ((go_at_call 59; exact Calls.ext _ (ports_any a.port b.port _)))
  repeat (go_big_quiet_step (fail))
  go_big_quiet_step ((go_at_call 59; exact Calls.ext _ (ports_any a.at_ b.at_ _)))
  refine wpQuiet_nil ?_
  rintro w' ⟨⟨W1, hb1⟩, rfl⟩
  clear hA hB
  try simp only [] at *
  go_wp2_with fail
  refine (or_new [lexI a.root.key b.root.key, Lib.compareInt a.cost b.cost, lexI a.sender.key b.sender.key, lexI a.port.key b.port.key, lexI a.at_.key b.at_.key] 5 5 _ _ rfl rfl (by decide) w').mono ?_
  rintro e w2 ⟨rfl, hb2⟩
  rw [Ho.out]
  go_wp2_with fail
  go_ret
  exact ⟨rfl, hb.trans ((hb1.mono hb.size).trans (hb2.mono (by have := hb.size; have := hb1.size; omega)))⟩
end Go.Proofs.YtkicbabfgahmkaaDoor

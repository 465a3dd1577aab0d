/- '==' at names, ports, vectors (out of StructEq). -/
import Derived.Test.YtkicbabfgahmkaaDoorPrio72
import Derived.Test.YtkicbabfgahmkaaDoorAd
set_option linter.all false
namespace Go.Proofs.YtkicbabfgahmkaaDoor
open Go.RowKit
theorem pt_eq (x y : Pt) (W : World) : (binOp .eql 55 (.agg x.vals.toArray) (.agg y.vals.toArray)).run Tryd.prog W = .ok (.bool (decide (x = y))) W := by
  have u3 := Tryd.underlying3
  have a3 := Tryd.isAgg3
  have z3 := Tryd.sizeOf3
  have hS : Tryd.prog.underlying 55 = some (.struct (Tryd.prog.fieldsOf 55)) := by kernel_rfl
  have hp : Tryd.prog.stoodInHeld 55 = false := by kernel_rfl
  obtain ⟨a, b⟩ := x
  obtain ⟨c, d⟩ := y
  simp only [Pt.vals]
  rw [run_eql_struct, show (10000 : Nat) = 9999 + 1 from rfl, run_equalIn_agg W 9999 55 _ _ hS hp]
  simp only [Program.fieldsOf, Tryd.underlying55]
  go_simp
  by_cases h1 : a = c <;> by_cases h2 : b = d <;> simp [h1, h2]
theorem pt_guard (x y : Pt) (p q : Operand) (W : World) : (eqGuard .eql 55 p q (.agg x.vals.toArray) (.agg y.vals.toArray)).run Tryd.prog W = .ok () W := run_eqGuard_agg W .eql _ p q _ _ (by kernel_rfl)
theorem br_eqIn (x y : Br) (d : Nat) (W : World) : (Op.equalIn (d + 1 + 1 + 1) 53 (.agg x.vals.toArray) (.agg y.vals.toArray)).run Tryd.prog W = .ok (decide (x = y)) W := by
  have u3 := Tryd.underlying3
  have a3 := Tryd.isAgg3
  have z3 := Tryd.sizeOf3
  have a27 := Tryd.isAgg23
  have z27 := Tryd.sizeOf23
  have hS : Tryd.prog.underlying 53 = some (.struct (Tryd.prog.fieldsOf 53)) := by kernel_rfl
  have hp : Tryd.prog.stoodInHeld 53 = false := by kernel_rfl
  obtain ⟨p, q, ⟨a, b, c, e, f, g⟩⟩ := x
  obtain ⟨p', q', ⟨a', b', c', e', f', g'⟩⟩ := y
  have had := ad_eqIn ⟨a, b, c, e, f, g⟩ ⟨a', b', c', e', f', g'⟩ d W
  have hd : decide ((⟨p, q, ⟨a, b, c, e, f, g⟩⟩ : Br) = ⟨p', q', ⟨a', b', c', e', f', g'⟩⟩) = (decide (p = p') && (decide (q = q') && decide ((⟨a, b, c, e, f, g⟩ : Ad) = ⟨a', b', c', e', f', g'⟩))) := by
    simp only [Br.mk.injEq, Bool.decide_and]
  rw [hd]
  clear hd
  generalize decide ((⟨a, b, c, e, f, g⟩ : Ad) = ⟨a', b', c', e', f', g'⟩) = v at *
  simp only [Ad.vals] at had
  simp only [Br.vals, Ad.vals]
  rw [run_equalIn_agg W (d + 1 + 1) 53 _ _ hS hp]
  simp only [Program.fieldsOf, Tryd.underlying53]
  go_simp
  by_cases h1 : p = p' <;> by_cases h2 : q = q' <;> cases v <;> simp [h1, h2]
theorem br_eq (x y : Br) (W : World) : (binOp .eql 53 (.agg x.vals.toArray) (.agg y.vals.toArray)).run Tryd.prog W = .ok (.bool (decide (x = y))) W := by
  rw [run_eql_struct, show (10000 : Nat) = 9997 + 1 + 1 + 1 from rfl, br_eqIn]; rfl
theorem br_neq (x y : Br) (W : World) : (binOp .neq 53 (.agg x.vals.toArray) (.agg y.vals.toArray)).run Tryd.prog W = .ok (.bool (!decide (x = y))) W := by
  rw [run_neq_struct, show (10000 : Nat) = 9997 + 1 + 1 + 1 from rfl, br_eqIn]; rfl
theorem br_guard (op : BinOp) (x y : Br) (p q : Operand) (W : World) : (eqGuard op 53 p q (.agg x.vals.toArray) (.agg y.vals.toArray)).run Tryd.prog W = .ok () W := run_eqGuard_agg W op _ p q _ _ (by kernel_rfl)
theorem pt_eqIn (x y : Pt) (d : Nat) (W : World) : (Op.equalIn (d + 1 + 1) 55 (.agg x.vals.toArray) (.agg y.vals.toArray)).run Tryd.prog W = .ok (decide (x = y)) W := by
  have u3 := Tryd.underlying3
  have a3 := Tryd.isAgg3
  have z3 := Tryd.sizeOf3
  have hS : Tryd.prog.underlying 55 = some (.struct (Tryd.prog.fieldsOf 55)) := by kernel_rfl
  have hp : Tryd.prog.stoodInHeld 55 = false := by kernel_rfl
  obtain ⟨a, b⟩ := x
  obtain ⟨c, e⟩ := y
  simp only [Pt.vals]
  rw [run_equalIn_agg W (d + 1) 55 _ _ hS hp]
  simp only [Program.fieldsOf, Tryd.underlying55]
  go_simp
  by_cases h1 : a = c <;> by_cases h2 : b = e <;> simp [h1, h2]
set_option maxHeartbeats 1000000 in
theorem vec_eqIn (x y : Vec) (d : Nat) (W : World) : (Op.equalIn (d + 1 + 1 + 1 + 1) 71 (.agg x.vals.toArray) (.agg y.vals.toArray)).run Tryd.prog W = .ok (decide (x = y)) W := by
  have u3 := Tryd.underlying3
  have a3 := Tryd.isAgg3
  have z3 := Tryd.sizeOf3
  have a27 := Tryd.isAgg23
  have z27 := Tryd.sizeOf23
  have a29 := Tryd.isAgg53
  have z29 := Tryd.sizeOf53
  have a35 := Tryd.isAgg55
  have z35 := Tryd.sizeOf55
  have hS : Tryd.prog.underlying 71 = some (.struct (Tryd.prog.fieldsOf 71)) := by kernel_rfl
  have hp : Tryd.prog.stoodInHeld 71 = false := by kernel_rfl
  obtain ⟨⟨r1, r2, r3⟩, c, ⟨s1, s2, s3⟩, ⟨p1, p2⟩, ⟨q1, q2⟩⟩ := x
  obtain ⟨⟨r1', r2', r3'⟩, c', ⟨s1', s2', s3'⟩, ⟨p1', p2'⟩, ⟨q1', q2'⟩⟩ := y
  have h1 := ad_eqIn r3 r3' d
  have h2 := ad_eqIn s3 s3' d
  have hd : decide ((⟨⟨r1, r2, r3⟩, c, ⟨s1, s2, s3⟩, ⟨p1, p2⟩, ⟨q1, q2⟩⟩ : Vec) = ⟨⟨r1', r2', r3'⟩, c', ⟨s1', s2', s3'⟩, ⟨p1', p2'⟩, ⟨q1', q2'⟩⟩) =
      ((decide (r1 = r1') && (decide (r2 = r2') && decide (r3 = r3'))) && (decide (c = c') && ((decide (s1 = s1') && (decide (s2 = s2') && decide (s3 = s3'))) && ((decide (p1 = p1') && decide (p2 = p2')) && (decide (q1 = q1') && decide (q2 = q2')))))) := by
    simp only [Vec.mk.injEq, Br.mk.injEq, Pt.mk.injEq, Bool.decide_and]
  rw [hd]
  clear hd
  generalize decide (r3 = r3') = v1 at *
  generalize decide (s3 = s3') = v2 at *
  simp only [Ad.vals] at h1 h2
  simp only [Vec.vals, Br.vals, Ad.vals, Pt.vals, List.cons_append, List.nil_append]
  rw [run_equalIn_agg W (d + 1 + 1 + 1) 71 _ _ hS hp]
  simp only [Program.fieldsOf, Tryd.underlying71]
  go_simp
  clear h1 h2
  cases v1 <;> cases v2
  all_goals
    by_cases k0 : r1 = r1'
    case neg => simp [k0]
    by_cases k1 : r2 = r2'
    case neg => simp [k0, k1]
    by_cases k2 : c = c'
    case neg => simp [k0, k1, k2]
    by_cases k3 : s1 = s1'
    case neg => simp [k0, k1, k2, k3]
    by_cases k4 : s2 = s2'
    case neg => simp [k0, k1, k2, k3, k4]
    by_cases k5 : p1 = p1'
    case neg => simp [k0, k1, k2, k3, k4, k5]
    by_cases k6 : p2 = p2'
    case neg => simp [k0, k1, k2, k3, k4, k5, k6]
    by_cases k7 : q1 = q1'
    case neg => simp [k0, k1, k2, k3, k4, k5, k6, k7]
    by_cases k8 : q2 = q2'
    case neg => simp [k0, k1, k2, k3, k4, k5, k6, k7, k8]
    simp [k0, k1, k2, k3, k4, k5, k6, k7, k8]
theorem vec_neq (x y : Vec) (W : World) : (binOp .neq 71 (.agg x.vals.toArray) (.agg y.vals.toArray)).run Tryd.prog W = .ok (.bool (!decide (x = y))) W := by
  rw [run_neq_struct, show (10000 : Nat) = 9996 + 1 + 1 + 1 + 1 from rfl, vec_eqIn]; rfl
theorem vec_guard (op : BinOp) (x y : Vec) (p q : Operand) (W : World) : (eqGuard op 71 p q (.agg x.vals.toArray) (.agg y.vals.toArray)).run Tryd.prog W = .ok () W := run_eqGuard_agg W op _ p q _ _ (by kernel_rfl)
end Go.Proofs.YtkicbabfgahmkaaDoor

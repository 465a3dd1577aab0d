/- '==' at addresses, names, ports, vectors. -/
import Derived.Test.YthpgdipcdllfdaaTree1
import Derived.Laws.StructEq
namespace Go.Proofs.Ythpgdipcdllfdaa
open Go.RowKit
theorem pt_eq (x y : Pt) (W : World) : (binOp .eql 35 (.agg x.vals.toArray) (.agg y.vals.toArray)).run Try.prog W = .ok (.bool (decide (x = y))) W := by
  have u3 := Try.underlying3
  have a3 := Try.isAgg3
  have z3 := Try.sizeOf3
  have hS : Try.prog.underlying 35 = some (.struct (Try.prog.fieldsOf 35)) := by kernel_rfl
  have hp : Try.prog.stoodInHeld 35 = false := by kernel_rfl
  obtain ⟨a, b⟩ := x
  obtain ⟨c, d⟩ := y
  simp only [Pt.vals]
  rw [run_eql_struct, show (10000 : Nat) = 9999 + 1 from rfl, run_equalIn_agg W 9999 35 _ _ hS hp]
  simp only [Program.fieldsOf, Try.underlying35]
  go_simp
  by_cases h1 : a = c <;> by_cases h2 : b = d <;> simp [h1, h2]
theorem pt_guard (x y : Pt) (p q : Operand) (W : World) : (eqGuard .eql 35 p q (.agg x.vals.toArray) (.agg y.vals.toArray)).run Try.prog W = .ok () W := run_eqGuard_agg W .eql _ p q _ _ (by kernel_rfl)
@[go_sem] def eqElems (d : Nat) (e : TypeId) (xs ys : Array Value) (n : Nat) : List Nat → Sem Bool
  | [] => pure true
  | i :: r => do
    let a ← part e xs (i * n)
    let b ← part e ys (i * n)
    let c ← Op.equalIn d e a b
    if (!c) = true then pure false else eqElems d e xs ys n r
theorem run_equalIn_array {P : Program} (w : World) (d len n : Nat) (t e : TypeId) (xs ys : Array Value) (ht : P.underlying t = some (.array len e)) (hn : ∀ w, (sizeOf e).run P w = .ok n w) :
    (Op.equalIn (d + 1) t (.agg xs) (.agg ys)).run P w = (eqElems d e xs ys n (List.range' 0 len)).run P w := by
  simp only [Op.equalIn, Sem.run_bind, run_underlying ht, Result.andThen_ok, hn]
  rw [Std.Legacy.Range.forIn_eq_forIn_range']
  simp only [Std.Legacy.Range.size, Nat.sub_zero, Nat.add_sub_cancel, Nat.div_one]
  generalize List.range' 0 len = l
  clear ht hn
  induction l generalizing w with
  | nil => simp [eqElems]
  | cons i l ih =>
    simp only [List.forIn_cons, eqElems, Sem.run_bind, Sem.run_ite]
    generalize (part e xs (i * n)).run P w = r1
    cases r1 with
    | ok a w1 =>
      simp only [Result.andThen_ok]
      generalize (part e ys (i * n)).run P w1 = r2
      cases r2 with
      | ok b w2 =>
        simp only [Result.andThen_ok]
        generalize (Op.equalIn d e a b).run P w2 = r3
        cases r3 with
        | ok r w3 =>
          cases r
          · simp only [Result.andThen_ok, Bool.not_false, if_true, Sem.run_pure]
          · simp only [Result.andThen_ok, Bool.not_true, Bool.false_eq_true, if_false, Sem.run_pure]
            exact ih w3
        | halt x w3 => simp [Result.andThen]
      | halt x w2 => simp [Result.andThen]
    | halt x w1 => simp [Result.andThen]
theorem ad_eqIn (x y : Ad) (d : Nat) (W : World) : (Op.equalIn (d + 1 + 1) 27 (.agg x.vals.toArray) (.agg y.vals.toArray)).run Try.prog W = .ok (decide (x = y)) W := by
  have u5 := Try.underlying5
  have a5 := Try.isAgg5
  have z5 := Try.sizeOf5
  obtain ⟨a, b, c, e, f, g⟩ := x
  obtain ⟨a', b', c', e', f', g'⟩ := y
  rw [run_equalIn_array W (d + 1) 6 1 _ 5 _ _ Try.underlying27 z5]
  simp only [Ad.vals, show List.range' 0 6 = [0, 1, 2, 3, 4, 5] from rfl]
  have hi : ∀ (m n : UInt8), ((m.toNat : Int) == (n.toNat : Int)) = decide (m = n) := fun m n => by
    by_cases h : m = n
    · simp [h]
    · have : m.toNat ≠ n.toNat := fun e => h (UInt8.toNat_inj.1 e)
      simp [h]; omega
  go_simp
  by_cases h1 : a = a' <;> by_cases h2 : b = b' <;> by_cases h3 : c = c' <;> by_cases h4 : e = e' <;> by_cases h5 : f = f' <;> by_cases h6 : g = g' <;> simp [h1, h2, h3, h4, h5, h6]
theorem br_eqIn (x y : Br) (d : Nat) (W : World) : (Op.equalIn (d + 1 + 1 + 1) 29 (.agg x.vals.toArray) (.agg y.vals.toArray)).run Try.prog W = .ok (decide (x = y)) W := by
  have u3 := Try.underlying3
  have a3 := Try.isAgg3
  have z3 := Try.sizeOf3
  have a27 := Try.isAgg27
  have z27 := Try.sizeOf27
  have hS : Try.prog.underlying 29 = some (.struct (Try.prog.fieldsOf 29)) := by kernel_rfl
  have hp : Try.prog.stoodInHeld 29 = false := by kernel_rfl
  obtain ⟨p, q, ⟨a, b, c, e, f, g⟩⟩ := x
  obtain ⟨p', q', ⟨a', b', c', e', f', g'⟩⟩ := y
  have had := ad_eqIn ⟨a, b, c, e, f, g⟩ ⟨a', b', c', e', f', g'⟩ d W
  have hd : decide ((⟨p, q, ⟨a, b, c, e, f, g⟩⟩ : Br) = ⟨p', q', ⟨a', b', c', e', f', g'⟩⟩) = (decide (p = p') && (decide (q = q') && decide ((⟨a, b, c, e, f, g⟩ : Ad) = ⟨a', b', c', e', f', g'⟩))) := by
    simp only [Br.mk.injEq, Bool.decide_and]
  rw [hd]
  clear hd
  generalize decide ((⟨a, b, c, e, f, g⟩ : Ad) = ⟨a', b', c', e', f', g'⟩) = v at *
  simp only [Ad.vals] at had
  simp only [Br.vals, Ad.vals]
  rw [run_equalIn_agg W (d + 1 + 1) 29 _ _ hS hp]
  simp only [Program.fieldsOf, Try.underlying29]
  go_simp
  by_cases h1 : p = p' <;> by_cases h2 : q = q' <;> cases v <;> simp [h1, h2]
theorem br_eq (x y : Br) (W : World) : (binOp .eql 29 (.agg x.vals.toArray) (.agg y.vals.toArray)).run Try.prog W = .ok (.bool (decide (x = y))) W := by
  rw [run_eql_struct, show (10000 : Nat) = 9997 + 1 + 1 + 1 from rfl, br_eqIn]; rfl
theorem br_neq (x y : Br) (W : World) : (binOp .neq 29 (.agg x.vals.toArray) (.agg y.vals.toArray)).run Try.prog W = .ok (.bool (!decide (x = y))) W := by
  rw [run_neq_struct, show (10000 : Nat) = 9997 + 1 + 1 + 1 from rfl, br_eqIn]; rfl
theorem br_guard (op : BinOp) (x y : Br) (p q : Operand) (W : World) : (eqGuard op 29 p q (.agg x.vals.toArray) (.agg y.vals.toArray)).run Try.prog W = .ok () W := run_eqGuard_agg W op _ p q _ _ (by kernel_rfl)
theorem pt_eqIn (x y : Pt) (d : Nat) (W : World) : (Op.equalIn (d + 1 + 1) 35 (.agg x.vals.toArray) (.agg y.vals.toArray)).run Try.prog W = .ok (decide (x = y)) W := by
  have u3 := Try.underlying3
  have a3 := Try.isAgg3
  have z3 := Try.sizeOf3
  have hS : Try.prog.underlying 35 = some (.struct (Try.prog.fieldsOf 35)) := by kernel_rfl
  have hp : Try.prog.stoodInHeld 35 = false := by kernel_rfl
  obtain ⟨a, b⟩ := x
  obtain ⟨c, e⟩ := y
  simp only [Pt.vals]
  rw [run_equalIn_agg W (d + 1) 35 _ _ hS hp]
  simp only [Program.fieldsOf, Try.underlying35]
  go_simp
  by_cases h1 : a = c <;> by_cases h2 : b = e <;> simp [h1, h2]
set_option maxHeartbeats 1000000 in
theorem vec_eqIn (x y : Vec) (d : Nat) (W : World) : (Op.equalIn (d + 1 + 1 + 1 + 1) 48 (.agg x.vals.toArray) (.agg y.vals.toArray)).run Try.prog W = .ok (decide (x = y)) W := by
  have u3 := Try.underlying3
  have a3 := Try.isAgg3
  have z3 := Try.sizeOf3
  have a27 := Try.isAgg27
  have z27 := Try.sizeOf27
  have a29 := Try.isAgg29
  have z29 := Try.sizeOf29
  have a35 := Try.isAgg35
  have z35 := Try.sizeOf35
  have hS : Try.prog.underlying 48 = some (.struct (Try.prog.fieldsOf 48)) := by kernel_rfl
  have hp : Try.prog.stoodInHeld 48 = false := by kernel_rfl
  obtain ⟨⟨r1, r2, r3⟩, c, ⟨s1, s2, s3⟩, ⟨p1, p2⟩, ⟨q1, q2⟩⟩ := x
  obtain ⟨⟨r1', r2', r3'⟩, c', ⟨s1', s2', s3'⟩, ⟨p1', p2'⟩, ⟨q1', q2'⟩⟩ := y
  have h1 := ad_eqIn r3 r3' d
  have h2 := ad_eqIn s3 s3' d
  have hd : decide ((⟨⟨r1, r2, r3⟩, c, ⟨s1, s2, s3⟩, ⟨p1, p2⟩, ⟨q1, q2⟩⟩ : Vec) = ⟨⟨r1', r2', r3'⟩, c', ⟨s1', s2', s3'⟩, ⟨p1', p2'⟩, ⟨q1', q2'⟩⟩) =
      ((decide (r1 = r1') && (decide (r2 = r2') && decide (r3 = r3'))) && (decide (c = c') && ((decide (s1 = s1') && (decide (s2 = s2') && decide (s3 = s3'))) && ((decide (p1 = p1') && decide (p2 = p2')) && (decide (q1 = q1') && decide (q2 = q2')))))) := by
    simp only [Vec.mk.injEq, Br.mk.injEq, Pt.mk.injEq, Bool.decide_and]
  rw [hd]
  clear hd
  generalize decide (r3 = r3') = v1 at *
  generalize decide (s3 = s3') = v2 at *
  simp only [Ad.vals] at h1 h2
  simp only [Vec.vals, Br.vals, Ad.vals, Pt.vals, List.cons_append, List.nil_append]
  rw [run_equalIn_agg W (d + 1 + 1 + 1) 48 _ _ hS hp]
  simp only [Program.fieldsOf, Try.underlying48]
  go_simp
  clear h1 h2
  cases v1 <;> cases v2
  all_goals
    by_cases k0 : r1 = r1'
    case neg => simp [k0]
    by_cases k1 : r2 = r2'
    case neg => simp [k0, k1]
    by_cases k2 : c = c'
    case neg => simp [k0, k1, k2]
    by_cases k3 : s1 = s1'
    case neg => simp [k0, k1, k2, k3]
    by_cases k4 : s2 = s2'
    case neg => simp [k0, k1, k2, k3, k4]
    by_cases k5 : p1 = p1'
    case neg => simp [k0, k1, k2, k3, k4, k5]
    by_cases k6 : p2 = p2'
    case neg => simp [k0, k1, k2, k3, k4, k5, k6]
    by_cases k7 : q1 = q1'
    case neg => simp [k0, k1, k2, k3, k4, k5, k6, k7]
    by_cases k8 : q2 = q2'
    case neg => simp [k0, k1, k2, k3, k4, k5, k6, k7, k8]
    simp [k0, k1, k2, k3, k4, k5, k6, k7, k8]
theorem vec_neq (x y : Vec) (W : World) : (binOp .neq 48 (.agg x.vals.toArray) (.agg y.vals.toArray)).run Try.prog W = .ok (.bool (!decide (x = y))) W := by
  rw [run_neq_struct, show (10000 : Nat) = 9996 + 1 + 1 + 1 + 1 from rfl, vec_eqIn]; rfl
theorem vec_guard (op : BinOp) (x y : Vec) (p q : Operand) (W : World) : (eqGuard op 48 p q (.agg x.vals.toArray) (.agg y.vals.toArray)).run Try.prog W = .ok () W := run_eqGuard_agg W op _ p q _ _ (by kernel_rfl)
end Go.Proofs.Ythpgdipcdllfdaa

/- Addresses as plain data, and '==' at them. -/
import Derived.Test.YtkicbabfgahmkaaDoorRows
import Derived.Test.YtkicbabfgahmkaaDoorOwn
import Derived.Laws.StructEq
set_option linter.all false
namespace Go.Proofs.YtkicbabfgahmkaaDoor
open Go.RowKit
structure Ad where
  a : UInt8
  b : UInt8
  c : UInt8
  d : UInt8
  e : UInt8
  f : UInt8
deriving DecidableEq, Inhabited
def Ad.list (x : Ad) : List UInt8 := [x.a, x.b, x.c, x.d, x.e, x.f]
theorem Ad.inj {x y : Ad} (h : x.list = y.list) : x = y := by
  cases x; cases y; simpa [Ad.list] using h
theorem u8_int {x y : UInt8} (h : (x.toNat : Int) = y.toNat) : x = y := UInt8.toNat_inj.1 (by omega)
def Ad.vals (x : Ad) : List Value := [.int .u8 x.a.toNat, .int .u8 x.b.toNat, .int .u8 x.c.toNat, .int .u8 x.d.toNat, .int .u8 x.e.toNat, .int .u8 x.f.toNat]
@[go_sem] def eqElems (d : Nat) (e : TypeId) (xs ys : Array Value) (n : Nat) : List Nat → Sem Bool
  | [] => pure true
  | i :: r => do
    let a ← part e xs (i * n)
    let b ← part e ys (i * n)
    let c ← Op.equalIn d e a b
    if (!c) = true then pure false else eqElems d e xs ys n r
theorem run_equalIn_array {P : Program} (w : World) (d len n : Nat) (t e : TypeId) (xs ys : Array Value) (ht : P.underlying t = some (.array len e)) (hn : ∀ w, (sizeOf e).run P w = .ok n w) :
    (Op.equalIn (d + 1) t (.agg xs) (.agg ys)).run P w = (eqElems d e xs ys n (List.range' 0 len)).run P w := by
  simp only [Op.equalIn, Sem.run_bind, run_underlying ht, Result.andThen_ok, hn]
  rw [Std.Legacy.Range.forIn_eq_forIn_range']
  simp only [Std.Legacy.Range.size, Nat.sub_zero, Nat.add_sub_cancel, Nat.div_one]
  generalize List.range' 0 len = l
  clear ht hn
  induction l generalizing w with
  | nil => simp [eqElems]
  | cons i l ih =>
    simp only [List.forIn_cons, eqElems, Sem.run_bind, Sem.run_ite]
    generalize (part e xs (i * n)).run P w = r1
    cases r1 with
    | ok a w1 =>
      simp only [Result.andThen_ok]
      generalize (part e ys (i * n)).run P w1 = r2
      cases r2 with
      | ok b w2 =>
        simp only [Result.andThen_ok]
        generalize (Op.equalIn d e a b).run P w2 = r3
        cases r3 with
        | ok r w3 =>
          cases r
          · simp only [Result.andThen_ok, Bool.not_false, if_true, Sem.run_pure]
          · simp only [Result.andThen_ok, Bool.not_true, Bool.false_eq_true, if_false, Sem.run_pure]
            exact ih w3
        | halt x w3 => simp [Result.andThen]
      | halt x w2 => simp [Result.andThen]
    | halt x w1 => simp [Result.andThen]
theorem ad_eqIn (x y : Ad) (d : Nat) (W : World) : (Op.equalIn (d + 1 + 1) 23 (.agg x.vals.toArray) (.agg y.vals.toArray)).run Tryd.prog W = .ok (decide (x = y)) W := by
  have u5 := Tryd.underlying5
  have a5 := Tryd.isAgg5
  have z5 := Tryd.sizeOf5
  obtain ⟨a, b, c, e, f, g⟩ := x
  obtain ⟨a', b', c', e', f', g'⟩ := y
  rw [run_equalIn_array W (d + 1) 6 1 _ 5 _ _ Tryd.underlying23 z5]
  simp only [Ad.vals, show List.range' 0 6 = [0, 1, 2, 3, 4, 5] from rfl]
  have hi : ∀ (m n : UInt8), ((m.toNat : Int) == (n.toNat : Int)) = decide (m = n) := fun m n => by
    by_cases h : m = n
    · simp [h]
    · have : m.toNat ≠ n.toNat := fun e => h (UInt8.toNat_inj.1 e)
      simp [h]; omega
  go_simp
  by_cases h1 : a = a' <;> by_cases h2 : b = b' <;> by_cases h3 : c = c' <;> by_cases h4 : e = e' <;> by_cases h5 : f = f' <;> by_cases h6 : g = g' <;> simp [h1, h2, h3, h4, h5, h6]
theorem ad_eq (x y : Ad) (W : World) : (binOp .eql 23 (.agg x.vals.toArray) (.agg y.vals.toArray)).run Tryd.prog W = .ok (.bool (decide (x = y))) W := by
  rw [run_eql_struct, show (10000 : Nat) = 9998 + 1 + 1 from rfl, ad_eqIn]; rfl
theorem ad_guard (op : BinOp) (x y : Ad) (p q : Operand) (W : World) : (eqGuard op 23 p q (.agg x.vals.toArray) (.agg y.vals.toArray)).run Tryd.prog W = .ok () W := run_eqGuard_agg W op _ p q _ _ (by kernel_rfl)
theorem Ad.one (x : Ad) : ∀ v ∈ x.vals, v.oneCell' = true := fun v hv => by
  simp only [Ad.vals, List.mem_cons, List.not_mem_nil, or_false] at hv
  rcases hv with rfl | rfl | rfl | rfl | rfl | rfl <;> rfl
theorem info23 : (Tryd.prog.info? 23).map (·.size) = some 6 := by kernel_rfl
end Go.Proofs.YtkicbabfgahmkaaDoor

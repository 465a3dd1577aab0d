/- The sum of two texts as an operation of a drawn region. -/
import Derived.Test.YtjekdodboihfhaaDoorHeldG
import Derived.Test.YtjekdodboihfhaaDoorKit
set_option linter.all false
namespace Go.Proofs.YtjekdodboihfhaaDoor
open Go.RowKit
theorem exec_addS {P : Program} {a : Act} {d : Option Tmp} {t t2 : TypeId} {x y : Operand} {t' : TypeId} {pos : String} {after : Array Edge} {gd : Option (Nat × Bool)} {w : World} (s r : List UInt8) (hx : a.eval x = .string ⟨s.toArray⟩) (hy : a.eval y = .string ⟨r.toArray⟩) (h : s.length + r.length ≤ 9223372036854775807) :
    (execOp a.eval ⟨d, .binOp .add t x y t2, t', pos, after, gd⟩).run P w = .ok (.value (.string ⟨(s ++ r).toArray⟩)) w := by
  have h1 : ∀ w : World, (Op.stringOp .add ⟨s.toArray⟩ ⟨r.toArray⟩).run P w = .ok (.string ⟨(s ++ r).toArray⟩) w := fun w => by
    rw [run_string_add_sum (P := P) (w := w) ⟨s.toArray⟩ ⟨r.toArray⟩ h, ba_append]
  unfold execOp
  simp only [hx, hy, eqGuard, binOp, Sem.run_bind, Sem.run_pure, Result.andThen_ok, h1, ite_self]
end Go.Proofs.YtjekdodboihfhaaDoor

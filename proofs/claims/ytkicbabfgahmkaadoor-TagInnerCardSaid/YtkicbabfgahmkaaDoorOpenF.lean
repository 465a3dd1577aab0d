/- An argument that is a struct or an array of plain cells, opened: each cell's kind. -/
import Derived.Test.YtkicbabfgahmkaaDoorRows
import Derived.WideShapes
import Derived.Handy
set_option linter.all false
namespace Go.Proofs.YtkicbabfgahmkaaDoor
section
variable {P : Program} {w : World} {r : Reach} {base : Nat}
theorem cell_int {t : TypeId} {v : Value} {k : IntKind} (ht : P.underlying t = some (.int k)) (h : Cell.okWide P w r base t v) : ∃ n, v = .int k n ∧ k.has n := by
  unfold Cell.okWide Cell.ok at h
  rw [ht] at h
  cases v with
  | int k' n => obtain ⟨rfl, hn⟩ := h; exact ⟨n, rfl, hn⟩
  | _ => exact h.elim
theorem cell_bool {t : TypeId} {v : Value} (ht : P.underlying t = some .bool) (h : Cell.okWide P w r base t v) : ∃ b, v = .bool b := by
  unfold Cell.okWide Cell.ok at h
  rw [ht] at h
  cases v with
  | bool b => exact ⟨b, rfl⟩
  | _ => exact h.elim
theorem cell_string {t : TypeId} {v : Value} (ht : P.underlying t = some .string) (h : Cell.okWide P w r base t v) : ∃ s : List UInt8, v = .string ⟨s.toArray⟩ ∧ s.length ≤ 9223372036854775807 := by
  unfold Cell.okWide Cell.ok at h
  rw [ht] at h
  cases v with
  | string s =>
    obtain ⟨⟨l⟩⟩ := s
    have e : IntKind.i64.max = 9223372036854775807 := by rfl
    refine ⟨l, rfl, ?_⟩
    have h' : ((⟨⟨l⟩⟩ : ByteArray).size : Int) ≤ IntKind.i64.max := h
    rw [e] at h'
    have h2 : (⟨⟨l⟩⟩ : ByteArray).size = l.length := rfl
    omega
  | _ => exact h.elim
theorem flatV {t : TypeId} {v : Value} {ts : List TypeId} (hu : (∃ fs, P.underlying t = some (.struct fs)) ∨ ∃ n e, P.underlying t = some (.array n e)) (hts : P.cellTypes P.depth t = some ts) (hC : P.cellsOf t = ts.length)
    (h : Value.okWide P w r base t v) : ∃ cs : List Value, v = .agg cs.toArray ∧ cs.length = ts.length ∧ ∀ (i : Nat) (u : TypeId), ts[i]? = some u → ∃ c, cs[i]? = some c ∧ Cell.okWide P w r base u c := by
  have h' : ∃ cs : Array Value, v = .agg cs ∧ cs.size = P.cellsOf t ∧ Row.okWide P w r base t cs := by
    unfold Value.okWide at h
    rcases hu with ⟨fs, hu⟩ | ⟨n, e, hu⟩
    · rw [hu] at h; exact h
    · rw [hu] at h; exact h
  obtain ⟨⟨cs⟩, rfl, hsz, ts', hts', _, hi⟩ := h'
  rw [hts] at hts'
  obtain rfl := Option.some.inj hts'
  have hsz' : cs.length = ts.length := hsz.trans hC
  refine ⟨cs, rfl, hsz', fun i u hiu => ?_⟩
  have hlt : i < ts.length := (List.getElem?_eq_some_iff.1 hiu).1
  have hlt' : i < cs.length := by omega
  obtain ⟨u', hu', hc⟩ := hi i cs[i] (by simp [hlt'])
  rw [Nat.mod_eq_of_lt hlt, hiu] at hu'
  obtain rfl := Option.some.inj hu'
  exact ⟨cs[i], List.getElem?_eq_getElem hlt', hc⟩
end
end Go.Proofs.YtkicbabfgahmkaaDoor

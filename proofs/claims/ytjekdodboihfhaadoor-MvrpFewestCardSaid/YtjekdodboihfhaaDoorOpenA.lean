/- Arguments that came in, opened: numbers, slices of rows. Over any program. -/
import Derived.Test.YtjekdodboihfhaaDoorOwn
import Derived.Deep.Slices
import Derived.ChangeSame
import Derived.WideShapes
import Derived.OpenShut
set_option linter.all false
namespace Go.Proofs.YtjekdodboihfhaaDoor
open Go.RowKit Go.ChangeShapes Go.WideShapes Go.Deep
section
variable {H : Type} {enc : TypeId × Value → H} {w : World} {base : Nat} {sp : Nat → Bool} {hd : Bool}
theorem u8_of {n : Int} (h : (Lit.int .u8 n).wf = true) : ∃ b : UInt8, n = b.toNat := by
  have h2 := bounds_u8 h
  refine ⟨UInt8.ofNat n.toNat, ?_⟩
  rw [UInt8.toNat_ofNat']
  omega
theorem take_one {cs : List Value} {i : Nat} {v : Value} (h : (cs.drop i).take 1 = [v]) : cs[i]? = some v := by
  have : ((cs.drop i).take 1)[0]? = some v := by rw [h]; rfl
  rw [List.getElem?_take_of_lt (by omega), List.getElem?_drop] at this
  simpa using this
theorem list_ext_at {l m : List Value} (hl : l.length = m.length) (h : ∀ i, i < m.length → l[i]? = m[i]?) : l = m := by
  apply List.ext_getElem? 
  intro i
  by_cases hi : i < m.length
  · exact h i hi
  · rw [List.getElem?_eq_none (by omega), List.getElem?_eq_none (by omega)]
theorem int_at {P : Program} {fuel : Nat} {e : TypeId} {k : IntKind} {cs : List Value} {i : Nat} {x : DataW H × List MemPlace} (hu : P.underlying e = some (.int k)) (h : DataW.trod enc P w base sp hd fuel e ((cs.drop i).take 1) = some x) : ∃ n, cs[i]? = some (.int k n) ∧ (Lit.int k n).wf = true := by
  obtain ⟨n, h1, _, h2⟩ := DataW.trod_int hu h
  exact ⟨n, take_one h1, h2⟩
/-- A slice whose elements read: its rows. -/
theorem slice_rows {α : Type} [Inhabited α] {t e : TypeId} {fuel : Nat} {cs : List Value} {x : DataW H × List MemPlace} {P : Program} (ht : P.underlying t = some (.slice e)) {s : Nat} (hs : P.cellsOf e = s) (h0 : 0 < s) (vals : α → List Value)
    (Q : α → Prop) (he : ∀ (m : Nat) (cs : List Value) (y : DataW H × List MemPlace), DataW.trod enc P w base sp hd m e cs = some y → ∃ a, cs = vals a ∧ Q a)
    (h : DataW.trod enc P w base sp hd fuel t cs = some x) :
    ∃ (A : Option Addr) (L : List α) (cap : Nat), cs = [.slice A L.length cap] ∧ L.length ≤ cap ∧ L.length ≤ 9223372036854775807 ∧ (∀ a ∈ L, Q a) ∧ SlRow w w.heap.size s A (L.map vals) := by
  rcases open_slice ht h with ⟨e1, _⟩ | ⟨a, len, cap, m, n, D, Pl, e1, _, hl, hm, hmm, _, hx⟩
  · exact ⟨none, [], 0, e1, by simp, by simp, by simp, fun hn => by simp at hn⟩
  · have hlm : len ≤ m := by rw [hmm]; split <;> omega
    obtain ⟨f, hf⟩ := choose_lt (n := len) (p := fun i (y : α) => w.cells? base (a.add (i * s)) s = some (vals y) ∧ Q y) (fun i hi => by
      obtain ⟨cs', h1, h2⟩ := hx i (by omega)
      rw [hs] at h1
      obtain ⟨y, rfl, hq⟩ := he _ _ _ h2
      exact ⟨y, h1, hq⟩)
    have hm' : cap ≤ 9223372036854775807 := by unfold maxLen at hm; omega
    refine ⟨some a, (List.range len).map f, cap, by simpa using e1, by simpa using hl, by simp; omega, ?_, ?_⟩
    · intro y hy
      obtain ⟨i, hi, rfl⟩ := List.mem_map.1 hy
      exact (hf i (by simpa using hi)).2
    · intro hn
      have hn0 : 0 < len := by simpa using hn
      obtain ⟨_, l1, h1⟩ := World.cells?_some (hf 0 hn0).1
      have h2 := h1 0 h0
      rw [Nat.zero_mul, show (a.add 0).add 0 = a from rfl, List.getElem?_eq_getElem (by omega)] at h2
      obtain ⟨g, o, spot⟩ := a
      have hsp : spot = none := by
        cases spot with
        | none => rfl
        | some b =>
          unfold World.cell? at h2
          split at h2
          · simp at h2
          · cases h2
      subst hsp
      have hg : g < w.heap.size := by
        rcases Nat.lt_or_ge g w.heap.size with hlt | hge
        · exact hlt
        · rw [World.cell?, Array.getElem?_eq_none hge] at h2; cases h2
      refine ⟨g, o, rfl, hg, ?_⟩
      intro k hk j u hj
      simp only [List.length_map, List.length_range] at hk
      simp only [List.getElem_map, List.getElem_range] at hj
      obtain ⟨_, h3, h4⟩ := World.cells?_some (hf k hk).1
      have hjl : j < s := by
        have := (List.getElem?_eq_some_iff.1 hj).1
        rw [h3] at this; exact this
      have := h4 j hjl
      rw [Addr.add_mid, Addr.add_mid] at this
      rw [this, hj]
theorem slice_val {P : Program} {r : Reach} {base : Nat} {t e : TypeId} {w : World} {v : Value} {A : Option Addr} {n cap : Nat} (ht : P.underlying t = some (.slice e)) (hval : Value.okWide P w r base t v) (e1 : v.cells.toList = [.slice A n cap]) : v = .slice A n cap := by
  unfold Value.okWide at hval
  rw [ht] at hval
  simp only at hval
  unfold Cell.okWide Cell.ok at hval
  rw [ht] at hval
  cases v with
  | slice A' n' c' => simpa [Value.cells] using e1
  | _ => exact hval.elim
end
end Go.Proofs.YtjekdodboihfhaaDoor

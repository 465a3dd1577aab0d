/- 'append' onto a row of one's own, of perhaps nothing. Over any program. -/
import Derived.Test.YtjekdodboihfhaaItems
import Derived.Lib.AppendZeros
set_option linter.all false
namespace Go.Proofs.Ytjekdodboihfhaa
open Go.RowKit
theorem run_append_no {P : Program} {t e ty : TypeId} {i : TypeInfo} {A A' : Option Addr} {n cap c : Nat} (ht : P.underlying t = some (.slice e)) (hi : P.info? e = some i) (hc : n ≤ cap) (w : World) :
    (Builtin.append_ #[t, t] ty #[.slice A n cap, .slice A' 0 c]).run P w = .ok (.slice A n cap) w := by
  have hz : (Go.sizeOf e).run P w = .ok i.size w := by simp [Go.sizeOf, typeInfo, hi]
  have hf : (Builtin.firstCells i.size 0 (.slice A' 0 c)).run P w = .ok #[] w := by
    cases A' with
    | none => exact run_firstCells_none w _ _ _ _
    | some a => exact run_firstCells_some w i.size 0 a 0 c [] (by simp) (fun j v h => by simp at h)
  unfold Builtin.append_
  cases A with
  | none => simp [run_underlying ht, hz, hf, Builtin.lenOf, hc]
  | some a => simp [run_underlying ht, hz, hf, Builtin.lenOf, hc, storeCells]
/-- Of m elements, whatever m is. -/
theorem wpList_append_st0 {P : Program} {ops : Array Oper} {rest : List Oper} {d s x : Tmp} {t t' : TypeId} {pos : String} {after : Array Edge} {a : Act} {w w0 : World} {Q : Exit → Act → World → Prop} {e : TypeId} {size bytes n m c cap B : Nat} {A0 A' : Option Addr} {A : List It} (xs news : List Value)
    (E : ElemOk P t e size bytes) (H : St B w0 w (ownI e size (.slice A0 n cap) n xs :: A)) (hs : a.eval (.tmp s) = .slice A0 n cap) (hx : a.eval (.tmp x) = .slice A' m c) (hr : 0 < m → ∃ from_, A' = some from_ ∧ ∀ j u, news[j]? = some u → w.cell? (from_.add j) = some u) (hl : news.length = m * size) (h1 : ∀ u ∈ news, u.oneCell' = true)
    (h63 : n + m ≤ maxLen) (hbytes : (n + m) * bytes ≤ 140737488355328)
    (h : ∀ A2 cap2 W, St B w0 W (ownI e size (.slice A2 (n + m) cap2) (n + m) (xs ++ news) :: A) → wpList P ops Q rest (a.put (some d) (.slice A2 (n + m) cap2)) W) :
    wpList P ops Q (⟨some d, .call { callee := .builtin .append, args := #[.tmp s, .tmp x], argTypes := #[t, t] }, t', pos, after, none⟩ :: rest) a w := by
  by_cases hm : m = 0
  · subst hm
    have hn0 : news = [] := List.length_eq_zero_iff.1 (by simpa using hl)
    subst hn0
    obtain ⟨ht, i, z, hi, _⟩ := E
    have hcap : n ≤ cap := by
      rcases H.head.2 with ⟨e1, h0⟩ | ⟨g, cp, cur, e1, _, _, hc, _⟩
      · omega
      · injection e1 with _ _ e3
        omega
    refine Lib.wpList_append_run w rfl (.tmp s) (.tmp x) t t rfl _ _ hs hx _ _ (run_append_no ht hi hcap w) ?_
    have := h A0 cap w (by simpa using H)
    simpa using this
  · obtain ⟨from_, rfl, hr2⟩ := hr (by omega)
    exact wpList_append_st xs news E H hs hx hr2 hl h1 (by omega) h63 hbytes (fun g cap W k => h _ _ _ k)
theorem sl_from {w : World} {B s : Nat} {A : Option Addr} {C : List (List Value)} (h : SlRow w B s A C) (hs : 0 < s) (hC : ∀ c ∈ C, c.length = s) (h0 : 0 < C.length) : ∃ from_, A = some from_ ∧ ∀ j u, C.flatten[j]? = some u → w.cell? (from_.add j) = some u := by
  obtain ⟨g, o, hA, _, hc⟩ := h h0
  refine ⟨⟨g, o, none⟩, hA, flat_cells hs hC (fun k hk j u hj => ?_)⟩
  rw [Addr.add_mid]
  have := hc k hk j u hj
  rw [← Nat.add_assoc]; exact this
end Go.Proofs.Ytjekdodboihfhaa

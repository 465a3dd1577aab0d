/- XHeld's steps for guarded operations whose guard lets them run. -/
import Derived.Test.YtjekdodboihfhaaDoorHeld
import Derived.Test.YtjekdodboihfhaaDoorCells
set_option linter.all false
namespace Go.Proofs.YtjekdodboihfhaaDoor
open Go.RowKit
section
variable {P : Program} {ops : Array Oper} {Q : Exit → Act → World → Prop} {md : Region.Mode} {S : World → Prop} {k : Nat}
theorem wpAnyG_takeG {fuel : Nat} {listed : Array Bool} {a : Act} {w : World} (i : Nat) {oi : Oper} (v : Value) (hi : ops[i]? = some oi) (hL : lastB md ops k = true) (hC : closedB md ops k listed = true) (hik : i < k)
    (hf : Region.free md ops listed i = true) (hr : (Region.ready md ops listed).contains i = true) (hQ : ∀ c a w, Q (.panic c) (a.put oi.dst v) w → Q (.panic c) a w)
    (hgd : Region.wanted oi (yielded ops a.tmps) = true) (hy : ∀ w, S w → (execOp a.eval oi).run P w = .ok (.value v) w) (hS : S w)
    (h : wpAnyG P md ops Q S k fuel (listed.setIfInBounds i true) (a.put oi.dst v) w) : wpAnyG P md ops Q S k (fuel + 1) listed a w := by
  simp only [lastB, Bool.and_eq_true, decide_eq_true_eq] at hL
  obtain ⟨h1, h2, h3, h4⟩ := hL
  exact wpAnyG_first hi (Region.noSelect_spec h1) hQ h3 h4 (by omega) hik h2 fuel listed a w (closed_inv h2 hC) (Region.free_spec hi hf) (by simpa using hr) (.inl ⟨hgd, hy⟩) hS h
/-- An operation whose guard does not let it run. -/
theorem wpAnyG_skip {fuel : Nat} {listed : Array Bool} {a : Act} {w : World} (i : Nat) {oi : Oper} (hi : ops[i]? = some oi) (hL : lastB md ops k = true) (hC : closedB md ops k listed = true) (hik : i < k)
    (hf : Region.free md ops listed i = true) (hr : (Region.ready md ops listed).contains i = true) (hQ : ∀ c a w, Q (.panic c) (a.put oi.dst undef) w → Q (.panic c) a w)
    (hgd : Region.wanted oi (yielded ops a.tmps) = false) (hS : S w)
    (h : wpAnyG P md ops Q S k fuel (listed.setIfInBounds i true) (a.put oi.dst undef) w) : wpAnyG P md ops Q S k (fuel + 1) listed a w := by
  simp only [lastB, Bool.and_eq_true, decide_eq_true_eq] at hL
  obtain ⟨h1, h2, h3, h4⟩ := hL
  exact wpAnyG_first hi (Region.noSelect_spec h1) hQ h3 h4 (by omega) hik h2 fuel listed a w (closed_inv h2 hC) (Region.free_spec hi hf) (by simpa using hr) (.inr ⟨hgd, rfl⟩) hS h
theorem wpAnyG_oneG {fuel : Nat} {listed : Array Bool} {a : Act} {w : World} (i : Nat) {o : Oper} (hr : Region.ready md ops listed = [i]) (ho : ops[i]? = some o) (hgd : Region.wanted o (yielded ops a.tmps) = true)
    (h : ∀ K' : Act → World → Prop, Shut (∀ a w, (i ≠ k → S w) → ((i ≠ k → S w) → wpAnyG P md ops Q S k fuel (listed.setIfInBounds i true) a w) → K' a w) → Oper.wp P o a w K' Q) :
    wpAnyG P md ops Q S k (fuel + 1) listed a w := by
  refine ⟨fun h0 => (by rw [hr] at h0; cases h0), fun j hj => ?_⟩
  rw [hr, List.mem_singleton] at hj
  subst hj
  unfold wpOp
  simp only [ho]
  rw [if_pos hgd]
  exact .inl (h _ (fun a w h1 h2 => ⟨h1, h2 h1⟩))
end
/-- A load of a row of cells behind a guard that lets it run. -/
theorem wpList_load_rngG {P : Program} {ops : Array Oper} {rest : List Oper} {d : Tmp} {ty : TypeId} {p : Tmp} {t' : TypeId} {pos : String} {after : Array Edge} {gd : Option (Nat × Bool)} {a : Act} {w : World} {Q : Exit → Act → World → Prop} {b o : Nat} {ds : TypeDesc} (L : List Value)
    (hg : Region.wanted ⟨some d, .load ty (.tmp p), t', pos, after, gd⟩ (yielded ops a.tmps) = true) (hx : a.eval (.tmp p) = .pointer (some ⟨b, o, none⟩)) (hB : w.rangeAt b o L) (hu : P.underlying ty = some ds) (hd : ds.isRow = true) (hi : (P.info? ty).map (·.size) = some L.length)
    (h : wpList P ops Q rest (a.put (some d) (.agg L.toArray)) w) :
    wpList P ops Q (⟨some d, .load ty (.tmp p), t', pos, after, gd⟩ :: rest) a w :=
  wpList_step fun K hK => by
    rw [if_pos hg]
    exact wp_load_mid ty (.tmp p) rfl b o hx L ds hB hu hd hi (hK _ _ h)
end Go.Proofs.YtjekdodboihfhaaDoor

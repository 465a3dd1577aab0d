/- mvrp.Pack as plain data: what is packed is told as it was, by no more than it took. No program in sight. -/
import Derived.Test.YtjekdodboihfhaaDoorMv12
set_option linter.all false
namespace Go.Proofs.YtjekdodboihfhaaDoor
open Go.RowKit
/-- A pair that may be. -/
def okP (p : Pr) : Bool := decide (1 ≤ p.vid) && (decide (p.vid ≤ 4094) && evOk p.ev)
theorem okP_iff {p : Pr} : okP p = true ↔ 1 ≤ p.vid ∧ p.vid ≤ 4094 ∧ evOk p.ev = true := by simp [okP]
/-- Does a pair join the last one? -/
def joinB (a : Av) (p : Pr) : Bool := decide (a.first + (a.evs.length : Int) = p.vid) && decide (a.evs.length < 400)
def packS (out : List Av) (p : Pr) : List Av := match out.getLast? with
  | none => out ++ [⟨false, p.vid, [p.ev]⟩]
  | some a => if joinB a p = true then out.dropLast ++ [⟨a.all, a.first, a.evs ++ [p.ev]⟩] else out ++ [⟨false, p.vid, [p.ev]⟩]
def packM (ps : List Pr) : List Av := ps.foldl packS []
theorem packM_snoc (ps : List Pr) (p : Pr) : packM (ps ++ [p]) = packS (packM ps) p := by simp [packM]
theorem packS_join {O : List Av} {a : Av} {p : Pr} (h : joinB a p = true) : packS (O ++ [a]) p = O ++ [⟨a.all, a.first, a.evs ++ [p.ev]⟩] := by
  unfold packS
  simp [h]
theorem packS_new {O : List Av} {a : Av} {p : Pr} (h : joinB a p = false) : packS (O ++ [a]) p = (O ++ [a]) ++ [⟨false, p.vid, [p.ev]⟩] := by
  unfold packS
  simp [h]
theorem packS_nil (p : Pr) : packS [] p = [⟨false, p.vid, [p.ev]⟩] := rfl
/-- A packed one: right, not of all, with events. -/
structure Packed (a : Av) : Prop where
  ok : a.okB = true
  all : a.all = false
  pos : 1 ≤ a.evs.length
theorem packed_one {p : Pr} (h : okP p = true) : Packed ⟨false, p.vid, [p.ev]⟩ := by
  obtain ⟨h1, h2, h3⟩ := okP_iff.1 h
  refine ⟨Av.ok_iff.2 ⟨fun h => by simp at h, by show 0 ≤ p.vid; omega, h2, by show 1 ≤ 400; omega, fun _ => ⟨h1, by show p.vid + (1 : Nat) - 1 ≤ 4094; omega⟩, fun e he => ?_⟩, rfl, Nat.le_refl _⟩
  have he : e ∈ [p.ev] := he
  rw [List.mem_singleton.1 he]; exact h3
theorem packed_join {a : Av} {p : Pr} (ha : Packed a) (h : okP p = true) (hj : joinB a p = true) : Packed ⟨a.all, a.first, a.evs ++ [p.ev]⟩ := by
  obtain ⟨h1, h2, h3⟩ := okP_iff.1 h
  obtain ⟨q1, q2, q3, q4, q5, q6⟩ := Av.ok_iff.1 ha.ok
  simp only [joinB, Bool.and_eq_true, decide_eq_true_eq] at hj
  have hp := ha.pos
  have q5 := q5 (by omega)
  refine ⟨Av.ok_iff.2 ⟨fun h => by simp at h, q2, q3, ?_, fun _ => ⟨q5.1, ?_⟩, fun e he => ?_⟩, ha.all, ?_⟩
  · show (a.evs ++ [p.ev]).length ≤ 400
    rw [List.length_append]; show a.evs.length + 1 ≤ 400; omega
  · show a.first + ((a.evs ++ [p.ev]).length : Int) - 1 ≤ 4094
    rw [List.length_append]
    show a.first + ((a.evs.length + 1 : Nat) : Int) - 1 ≤ 4094
    omega
  · rcases List.mem_append.1 he with he | he
    · exact q6 e he
    · rw [List.mem_singleton.1 he]; exact h3
  · show 1 ≤ (a.evs ++ [p.ev]).length
    rw [List.length_append]; show 1 ≤ a.evs.length + 1; omega
theorem eachK_one {p : Pr} (h : okP p = true) : eachK ⟨false, p.vid, [p.ev]⟩ 1 = [p] := by
  obtain ⟨h1, h2, _⟩ := okP_iff.1 h
  have e : wrap64 (p.vid + ((0 : Nat) : Int)) = p.vid := by unfold wrap64; omega
  show [(⟨wrap64 (p.vid + ((0 : Nat) : Int)), _⟩ : Pr)] = [p]
  rw [e]; rfl
theorem eachK_ext {a b : Av} {k : Nat} (h1 : a.first = b.first) (h2 : ∀ i, i < k → a.evs[i]? = b.evs[i]?) : eachK a k = eachK b k := by
  unfold eachK
  refine List.map_congr_left fun i hi => ?_
  rw [h1, h2 i (by simpa using hi)]
theorem eachK_join {a : Av} {p : Pr} (ha : Packed a) (h : okP p = true) (hj : joinB a p = true) : eachK ⟨a.all, a.first, a.evs ++ [p.ev]⟩ (a.evs ++ [p.ev]).length = eachK a a.evs.length ++ [p] := by
  obtain ⟨h1, h2, _⟩ := okP_iff.1 h
  simp only [joinB, Bool.and_eq_true, decide_eq_true_eq] at hj
  have hl : (a.evs ++ [p.ev]).length = a.evs.length + 1 := by rw [List.length_append]; rfl
  rw [hl, eachK_succ]
  have e1 : eachK ⟨a.all, a.first, a.evs ++ [p.ev]⟩ a.evs.length = eachK a a.evs.length := eachK_ext rfl (fun i hi => by
    show (a.evs ++ [p.ev])[i]? = a.evs[i]?
    rw [List.getElem?_append_left hi])
  rw [e1]
  congr 1
  have e2 : wrap64 (a.first + (a.evs.length : Int)) = p.vid := by rw [hj.1]; unfold wrap64; omega
  have e3 : (a.evs ++ [p.ev])[a.evs.length]?.getD 0 = p.ev := by simp
  show [(⟨wrap64 (a.first + (a.evs.length : Int)), (a.evs ++ [p.ev])[a.evs.length]?.getD 0⟩ : Pr)] = [p]
  rw [e2, e3]
theorem last_or {α : Type} (l : List α) : l = [] ∨ ∃ O a, l = O ++ [a] := by
  rcases List.eq_nil_or_concat l with h | ⟨O, a, h⟩
  · exact .inl h
  · exact .inr ⟨O, a, by simpa using h⟩
/-- What is packed is told as it was. -/
theorem pack_spec (ps : List Pr) : ∀ (_ : ∀ p ∈ ps, okP p = true), eachM (packM ps) = ps ∧ ∀ a ∈ packM ps, Packed a := by
  have key : ∀ (qs ps : List Pr), (∀ p ∈ ps ++ qs, okP p = true) → (eachM (packM ps) = ps ∧ ∀ a ∈ packM ps, Packed a) → eachM (packM (ps ++ qs)) = ps ++ qs ∧ ∀ a ∈ packM (ps ++ qs), Packed a := by
    intro qs
    induction qs with
    | nil => intro ps _ h; simpa using h
    | cons p qs ih =>
      intro ps hok ⟨h1, h2⟩
      have hp : okP p = true := hok p (by simp)
      have := ih (ps ++ [p]) (by intro x hx; exact hok x (by simpa using hx)) ?_
      · simpa using this
      · rw [packM_snoc]
        rcases last_or (packM ps) with e | ⟨O, a, e⟩
        · rw [e] at h1 ⊢
          rw [packS_nil]
          have hps : ps = [] := by rw [← h1]; rfl
          subst hps
          refine ⟨?_, fun b hb => ?_⟩
          · show eachK ⟨false, p.vid, [p.ev]⟩ 1 ++ [] = [p]
            rw [eachK_one hp]; rfl
          · rw [List.mem_singleton.1 hb]; exact packed_one hp
        · rw [e] at h1 h2 ⊢
          have ha := h2 a (by simp)
          cases hj : joinB a p
          · rw [packS_new hj]
            refine ⟨?_, fun b hb => ?_⟩
            · rw [eachM_snoc, h1]
              show ps ++ eachK ⟨false, p.vid, [p.ev]⟩ 1 = _
              rw [eachK_one hp]
            · rcases List.mem_append.1 hb with hb | hb
              · exact h2 b hb
              · rw [List.mem_singleton.1 hb]; exact packed_one hp
          · rw [packS_join hj]
            refine ⟨?_, fun b hb => ?_⟩
            · rw [eachM_snoc] at h1 ⊢
              show eachM O ++ eachK ⟨a.all, a.first, a.evs ++ [p.ev]⟩ (a.evs ++ [p.ev]).length = _
              rw [eachK_join ha hp hj, ← List.append_assoc, h1]
            · rcases List.mem_append.1 hb with hb | hb
              · exact h2 b (by simp [hb])
              · rw [List.mem_singleton.1 hb]; exact packed_join ha hp hj
  intro hok
  have := key ps [] (by simpa using hok) ⟨rfl, fun a ha => by cases ha⟩
  simpa using this
/-- An attribute adds at most one. -/
theorem pack_attr (ps : List Pr) (a : Av) (ha : a.okB = true) : ∀ j, j ≤ a.evs.length → ((packM (ps ++ eachK a j)).length = (packM ps).length ∧ (0 < j → ∃ O b, packM (ps ++ eachK a j) = O ++ [b] ∧ b.first + (b.evs.length : Int) = a.first + (j : Int))) ∨
    ((packM (ps ++ eachK a j)).length = (packM ps).length + 1 ∧ ∃ O b, packM (ps ++ eachK a j) = O ++ [b] ∧ b.first + (b.evs.length : Int) = a.first + (j : Int) ∧ b.evs.length ≤ j)
  | 0, _ => .inl ⟨by simp [eachK], fun h => by omega⟩
  | j + 1, hj => by
    obtain ⟨q1, q2, q3, q4, q5, q6⟩ := Av.ok_iff.1 ha
    have q5 := q5 (by omega)
    have ih := pack_attr ps a ha j (by omega)
    obtain ⟨p, hp⟩ : ∃ p : Pr, p = ⟨wrap64 (a.first + (j : Int)), a.evs[j]?.getD 0⟩ := ⟨_, rfl⟩
    have hv : p.vid = a.first + (j : Int) := by rw [hp]; show wrap64 _ = _; unfold wrap64; omega
    have e : packM (ps ++ eachK a (j + 1)) = packS (packM (ps ++ eachK a j)) p := by rw [eachK_succ, ← List.append_assoc, packM_snoc, hp]
    rw [e]
    have new : ∀ X : List Av, packS X p = X ++ [⟨false, p.vid, [p.ev]⟩] → X.length = (packM ps).length → (packS X p).length = (packM ps).length + 1 ∧ ∃ O b, packS X p = O ++ [b] ∧ b.first + (b.evs.length : Int) = a.first + ((j + 1 : Nat) : Int) ∧ b.evs.length ≤ j + 1 := fun X hX hl => by
      rw [hX]
      refine ⟨by rw [List.length_append, hl]; rfl, X, _, rfl, ?_, ?_⟩
      · show p.vid + ((1 : Nat) : Int) = _; omega
      · show 1 ≤ j + 1; omega
    rcases ih with ⟨h1, h2⟩ | ⟨h1, O, b, h2, h3, h4⟩
    · rcases last_or (packM (ps ++ eachK a j)) with e0 | ⟨O, b, e0⟩
      · rw [e0] at h1 ⊢
        exact .inr (new [] (packS_nil p) h1)
      · rw [e0] at h1 ⊢
        cases hb : joinB b p
        · exact .inr (new _ (packS_new hb) h1)
        · rw [packS_join hb]
          have hb' := hb
          simp only [joinB, Bool.and_eq_true, decide_eq_true_eq] at hb'
          refine .inl ⟨by rw [← h1]; simp, fun _ => ⟨O, _, rfl, ?_⟩⟩
          show b.first + ((b.evs ++ [p.ev]).length : Int) = _
          rw [List.length_append]
          show b.first + ((b.evs.length + 1 : Nat) : Int) = _
          omega
    · rw [h2] at h1 ⊢
      have hb : joinB b p = true := by
        simp only [joinB, Bool.and_eq_true, decide_eq_true_eq]
        omega
      rw [packS_join hb]
      refine .inr ⟨by rw [← h1]; simp, O, _, rfl, ?_, ?_⟩
      · show b.first + ((b.evs ++ [p.ev]).length : Int) = _
        rw [List.length_append]
        show b.first + ((b.evs.length + 1 : Nat) : Int) = _
        omega
      · show (b.evs ++ [p.ev]).length ≤ j + 1
        rw [List.length_append]
        show b.evs.length + 1 ≤ j + 1
        omega
theorem pack_fewest : ∀ (m l : List Av), (∀ a ∈ m, a.okB = true) → (packM (eachM l ++ eachM m)).length ≤ (packM (eachM l)).length + m.length
  | [], l, _ => by simp [eachM]
  | a :: m, l, h => by
    have ha := h a (by simp)
    have e : eachM l ++ eachM (a :: m) = eachM (l ++ [a]) ++ eachM m := by
      rw [eachM_snoc]
      show eachM l ++ (eachK a a.evs.length ++ eachM m) = _
      rw [List.append_assoc]
    have ih := pack_fewest m (l ++ [a]) (fun b hb => h b (by simp [hb]))
    rw [e]
    have h1 : (packM (eachM (l ++ [a]))).length ≤ (packM (eachM l)).length + 1 := by
      rw [eachM_snoc]
      rcases pack_attr (eachM l) a ha a.evs.length (Nat.le_refl _) with ⟨h2, _⟩ | ⟨h2, _⟩ <;> omega
    rw [List.length_cons]
    omega
theorem pack_le (l : List Av) (h : ∀ a ∈ l, a.okB = true) : (packM (eachM l)).length ≤ l.length := by
  have := pack_fewest l [] h
  simpa [eachM, packM] using this
theorem each_okP (l : List Av) (h : ∀ a ∈ l, a.okB = true) : ∀ p ∈ eachM l, okP p = true := fun p hp => by
  obtain ⟨a, ha, hpa⟩ := List.mem_flatMap.1 hp
  obtain ⟨i, hi, rfl⟩ := List.mem_map.1 hpa
  have hi : i < a.evs.length := by simpa using hi
  obtain ⟨q1, q2, q3, q4, q5, q6⟩ := Av.ok_iff.1 (h a ha)
  have q5 := q5 (by omega)
  have e : wrap64 (a.first + (i : Int)) = a.first + (i : Int) := by unfold wrap64; omega
  refine okP_iff.2 ⟨?_, ?_, ?_⟩
  · show 1 ≤ wrap64 _; rw [e]; omega
  · show wrap64 _ ≤ 4094; rw [e]; omega
  · show evOk (a.evs[i]?.getD 0) = true
    rw [List.getElem?_eq_getElem hi]
    exact q6 _ (List.getElem_mem hi)
end Go.Proofs.YtjekdodboihfhaaDoor

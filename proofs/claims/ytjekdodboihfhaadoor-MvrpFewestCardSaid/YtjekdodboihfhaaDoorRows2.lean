/- Blocks known whole with their type; rows of one's own; append of one row. -/
import Derived.Test.YtjekdodboihfhaaDoorCells
import Derived.Laws.OwnMore
set_option linter.all false
namespace Go.Proofs.YtjekdodboihfhaaDoor
open Go.RowKit
section
variable {P : Program}
/-- A block that is just these cells of a type, none of them frozen. -/
def Blk (w : World) (g : Nat) (t : TypeId) (L : List Value) : Prop := w.heap[g]? = some (.cells L.toArray t (0, 0))
theorem Blk.lt {w : World} {g : Nat} {t : TypeId} {L : List Value} (h : Blk w g t L) : g < w.heap.size := by
  rcases Nat.lt_or_ge g w.heap.size with hlt | hge
  · exact hlt
  · unfold Blk at h; rw [Array.getElem?_eq_none hge] at h; cases h
theorem Blk.box {w : World} {g : Nat} {t : TypeId} {L : List Value} (h : Blk w g t L) : Box w g L :=
  ⟨fun j => cell_of_row w g j L.toArray t (0, 0) h, fun j => by unfold Blk at h; simp [World.frozen?, h]⟩
theorem Blk.new (w : World) (L : List Value) (t : TypeId) : Blk (w.alloc (.cells L.toArray t)) w.heap.size t L := heap_alloc_new w _
theorem Blk.below {B g : Nat} {w W : World} {t : TypeId} {L : List Value} (h : Blk w g t L) (hb : Below B w W) (hg : g < B) : Blk W g t L := (hb.block g hg).trans h
theorem Blk.only {b g : Nat} {w W : World} {t : TypeId} {L : List Value} (h : Blk w g t L) (ho : Only b w W) (hg : g ≠ b) : Blk W g t L := (ho.block g hg).trans h
theorem Blk.set {t : TypeId} {b : Nat} : ∀ (cs : List Value) (o : Nat) {w : World} {L : List Value}, Blk w b t L → o + cs.length ≤ L.length → Blk (w.setCells b o cs) b t (L.take o ++ (cs ++ L.drop (o + cs.length)))
  | [], o, w, L, h, _ => by simpa [World.setCells] using h
  | v :: r, o, w, L, h, ho => by
    have ho' : o + 1 + r.length ≤ (L.set o v).length := by simp only [List.length_set]; simp only [List.length_cons] at ho; omega
    have h1 : Blk (w.setCell ⟨b, o, none⟩ v) b t (L.set o v) := by
      have := heap_setCell_same w b o L.toArray t v h
      unfold Blk
      rw [this]
      congr 2
      simp
    have ih := Blk.set r (o + 1) h1 ho'
    have e : (L.set o v).take (o + 1) ++ (r ++ (L.set o v).drop (o + 1 + r.length)) = L.take o ++ (v :: r ++ L.drop (o + (v :: r).length)) := by
      simp only [List.length_cons] at ho
      have hol : o < L.length := by omega
      have e1 : (L.set o v).take (o + 1) = L.take o ++ [v] := by
        rw [List.take_succ_eq_append_getElem (by simpa using hol)]
        simp [List.take_set_of_le]
      have e2 : (L.set o v).drop (o + 1 + r.length) = L.drop (o + (r.length + 1)) := by
        rw [List.drop_set_of_lt (by omega)]
        congr 1; omega
      rw [e1, e2]
      simp
    rw [← e]
    exact ih
/-- A store into a block that is known whole, with its type. -/
theorem wpList_store_blk {ops : Array Oper} {rest : List Oper} {ty : TypeId} {p q : Tmp} {t' : TypeId} {pos : String} {after : Array Edge} {a : Act} {w : World} {Q : Exit → Act → World → Prop} {b o : Nat} {t : TypeId} (L cs : List Value)
    (hx : a.eval (.tmp p) = .pointer (some ⟨b, o, none⟩)) (hy : (a.eval (.tmp q)).cells = cs.toArray) (hB : Blk w b t L) (ho : o + cs.length ≤ L.length) (hi : (P.info? ty).map (·.size) = some cs.length) (h1 : ∀ v ∈ cs, v.oneCell' = true)
    (h : ∀ W, Blk W b t (L.take o ++ (cs ++ L.drop (o + cs.length))) → Only b w W → wpList P ops Q rest a W) :
    wpList P ops Q (⟨none, .store ty (.tmp p) (.tmp q), t', pos, after, none⟩ :: rest) a w := by
  have H := h _ (hB.set cs o ho) (Only.setCells cs o ⟨rfl, rfl, rfl, rfl, fun _ _ => rfl⟩)
  refine wpList_plain rfl fun _ hK => ?_
  unfold Oper.wp execOp
  simp only [hx, Instr.storeAt, Instr.sureAddr, Sem.run_bind, Sem.run_pure, Result.andThen_ok, run_storeVar_any w b o ty _ cs hy (hB.box.there o ho) hi h1]
  exact hK _ _ H
/-- An element type that a slice may have. -/
def ElemOk (P : Program) (t e : TypeId) (size bytes : Nat) : Prop := P.underlying t = some (.slice e) ∧ ∃ i z, P.info? e = some i ∧ i.zero = some z ∧ i.size = size ∧ i.bytes = bytes ∧ z.cells.size = size ∧ 0 < size
theorem own_ne {w : World} {base : Nat} {e t : TypeId} {size n : Nat} {v : Value} {xs : List Value} {g : Nat} {L : List Value} (h : w.ownsRow base e size v n xs) (hg : Blk w g t L) (hne : e ≠ t) : some g ≠ v.ownBlock := by
  rcases h.2 with ⟨rfl, _⟩ | ⟨g', cap, cur, rfl, _, hh, _⟩
  · simp [Value.ownBlock]
  · intro he
    have : g = g' := by simpa [Value.ownBlock] using he
    subst this
    unfold Blk at hg
    rw [hg] at hh
    injection hh with hh
    injection hh with _ ht
    exact hne ht.symm
/-- 'append(s, x)' onto a row of one's own: what is known behind it. -/
structure Grew (base : Nat) (v : Value) (w W : World) : Prop where
  grown : w.grownBy W v.ownBlock
  own : ∀ k, v.ownBlock = some k → base ≤ k
  base : base ≤ w.heap.size
theorem Grew.below {base : Nat} {v : Value} {w0 w W : World} (h : Grew base v w W) (hb : Below base w0 w) : Below base w0 W :=
  ⟨h.grown.os.trans hb.os, h.grown.tape.trans hb.tape, h.grown.output.trans hb.output, Nat.le_trans hb.size h.grown.size, fun k hk =>
    (h.grown.block k (Nat.lt_of_lt_of_le hk h.base) (fun e => by have := h.own k e.symm; omega)).trans (hb.block k hk)⟩
theorem Grew.blk {base : Nat} {v : Value} {w W : World} {g : Nat} {t : TypeId} {L : List Value} (h : Grew base v w W) (hg : Blk w g t L) (hne : some g ≠ v.ownBlock) : Blk W g t L := (h.grown.block g hg.lt hne).trans hg
theorem wpList_append_row {ops : Array Oper} {rest : List Oper} {d s x : Tmp} {t t' : TypeId} {pos : String} {after : Array Edge} {a : Act} {w : World} {Q : Exit → Act → World → Prop} {e : TypeId} {size bytes base n m c g : Nat} {v : Value} (xs news : List Value)
    (E : ElemOk P t e size bytes) (hs : a.eval (.tmp s) = v) (hx : a.eval (.tmp x) = .slice (some ⟨g, 0, none⟩) m c) (hown : w.ownsRow base e size v n xs) (hr : w.rangeAt g 0 news) (hl : news.length = m * size) (h1 : ∀ u ∈ news, u.oneCell' = true)
    (h63 : n + m ≤ maxLen) (hbytes : (n + m) * bytes ≤ 140737488355328) (hbase : base ≤ w.heap.size)
    (h : ∀ v' W, W.ownsRow base e size v' (n + m) (xs ++ news) → Grew base v w W → wpList P ops Q rest (a.put (some d) v') W) :
    wpList P ops Q (⟨some d, .call { callee := .builtin .append, args := #[.tmp s, .tmp x], argTypes := #[t, t] }, t', pos, after, none⟩ :: rest) a w := by
  obtain ⟨ht, i, z, hi, hz, hsz, hby, hzs, hpos⟩ := E
  refine wpList_append_own w rfl (.tmp s) (.tmp x) t rfl base e i z size bytes ht hi hz hsz hby hzs hpos v n xs hs hown ⟨g, 0, none⟩ m c news hx hl ?_ h1 h63 hbytes hbase ?_
  · intro j u hj
    rw [Addr.add_mid]
    exact hr j u hj
  · intro v' W h2 h3 _
    exact h v' W h2 ⟨h3, fun k hk => (hown.lt k hk).1, hbase⟩
/-- A row of one's own, as a slice of rows. -/
theorem own_row {w : World} {base : Nat} {e : TypeId} {size n : Nat} {v : Value} {C : List (List Value)} (h : w.ownsRow base e size v n C.flatten) (hC : ∀ c ∈ C, c.length = size) (hn : C.length = n) :
    ∃ A cap, v = .slice A n cap ∧ n ≤ cap ∧ (0 < n → ∃ g, A = some ⟨g, 0, none⟩ ∧ base ≤ g ∧ g < w.heap.size ∧ ∀ (k : Nat) (hk : k < C.length), w.rangeAt g (k * size) C[k]) := by
  rcases h.2 with ⟨rfl, h0⟩ | ⟨g, cap, cur, rfl, hb, hh, hc, hm, hs, ht⟩
  · exact ⟨none, 0, by rw [h0], by omega, fun h => absurd h (by omega)⟩
  · refine ⟨some ⟨g, 0, none⟩, cap, rfl, hc, fun _ => ⟨g, rfl, hb, (Array.getElem?_eq_some_iff.1 hh).1, fun k hk j u hj => ?_⟩⟩
    have hj' : j < size := by rw [← hC _ (List.getElem_mem hk)]; exact (List.getElem?_eq_some_iff.1 hj).1
    rw [cell_of_row w g (k * size + j) cur e (0, 0) hh]
    have hkn : k * size + j < n * size := by
      have : (k + 1) * size ≤ n * size := Nat.mul_le_mul_right _ (by omega)
      rw [Nat.add_mul] at this; omega
    have e1 : cur[k * size + j]? = (cur.toList.take (n * size))[k * size + j]? := by
      rw [List.getElem?_take_of_lt hkn]; simp
    rw [e1, ht]
    have flat : ∀ (C : List (List Value)), (∀ c ∈ C, c.length = size) → ∀ (k : Nat) (hk : k < C.length), C.flatten[k * size + j]? = C[k][j]? := by
      intro C
      induction C with
      | nil => intro _ k hk; exact absurd hk (by simp)
      | cons c r ih =>
        intro hC k hk
        have hc := hC c (List.mem_cons_self ..)
        cases k with
        | zero => simp only [Nat.zero_mul, Nat.zero_add, List.flatten_cons, List.getElem_cons_zero]; rw [List.getElem?_append_left (by omega)]
        | succ k =>
          simp only [List.flatten_cons, List.getElem_cons_succ]
          rw [List.getElem?_append_right (by rw [hc, Nat.add_mul]; omega), ← ih (fun c hc => hC c (List.mem_cons_of_mem _ hc)) k (by simpa using hk)]
          congr 1
          rw [hc, Nat.add_mul]; omega
    rw [flat C hC k hk]
    exact hj
end
end Go.Proofs.YtjekdodboihfhaaDoor

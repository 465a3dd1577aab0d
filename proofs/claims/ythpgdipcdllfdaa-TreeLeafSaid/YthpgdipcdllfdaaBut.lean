/- Worlds in which one block has been written, and others are new. -/
import Derived.Test.YthpgdipcdllfdaaMake2
namespace Go.Proofs.Ythpgdipcdllfdaa
open Go.RowKit
/-- But for block g all that was there is as it was. -/
structure But (g : Nat) (w W : World) : Prop where
  os : W.os = w.os
  tape : W.tape = w.tape
  output : W.output = w.output
  size : w.heap.size ≤ W.heap.size
  block : ∀ k, k < w.heap.size → k ≠ g → W.heap[k]? = w.heap[k]?
theorem But.refl (g : Nat) (w : World) : But g w w := ⟨rfl, rfl, rfl, Nat.le_refl _, fun _ _ _ => rfl⟩
theorem But.add {g : Nat} {w W X : World} (h : But g w W) (hb : Below W.heap.size W X) : But g w X :=
  ⟨hb.os.trans h.os, hb.tape.trans h.tape, hb.output.trans h.output, Nat.le_trans h.size hb.size, fun k hk hg => (hb.block k (Nat.lt_of_lt_of_le hk h.size)).trans (h.block k hk hg)⟩
theorem But.only {g : Nat} {w W X : World} (h : But g w W) (ho : Only g W X) : But g w X :=
  ⟨ho.os.trans h.os, ho.tape.trans h.tape, ho.output.trans h.output, by rw [ho.size]; exact h.size, fun k hk hg => (ho.block k hg).trans (h.block k hk hg)⟩
theorem But.below {g B : Nat} {w0 w W : World} (h : But g w W) (hb : Below B w0 w) (hB : B ≤ g) (hs : B ≤ w.heap.size) : Below B w0 W :=
  ⟨h.os.trans hb.os, h.tape.trans hb.tape, h.output.trans hb.output, Nat.le_trans hb.size h.size, fun k hk => (h.block k (by omega) (by omega)).trans (hb.block k hk)⟩
theorem own_but {w W : World} {base b size n : Nat} {e : TypeId} {v : Value} {xs : List Value} (h : w.ownsRow base e size v n xs) (ho : But b w W) (hb : b < base) : W.ownsRow base e size v n xs := by
  refine ⟨h.1, ?_⟩
  rcases h.2 with h' | ⟨g, cap, cur, e1, e2, e3, r⟩
  · exact .inl h'
  · exact .inr ⟨g, cap, cur, e1, e2, (ho.block g (Array.getElem?_eq_some_iff.1 e3).1 (by omega)).trans e3, r⟩
theorem own_lt {w : World} {base size n : Nat} {e : TypeId} {g cap : Nat} {xs : List Value} (h : w.ownsRow base e size (.slice (some ⟨g, 0, none⟩) n cap) n xs) : base ≤ g ∧ g < w.heap.size := by
  rcases h.2 with ⟨h', _⟩ | ⟨g', cap', cur, e1, e2, e3, _⟩
  · cases h'
  · injection e1 with e1
    injection e1 with e1
    injection e1 with e1
    subst e1
    exact ⟨e2, (Array.getElem?_eq_some_iff.1 e3).1⟩
theorem vec_cost {w : World} {base n g cap : Nat} {V : List Vec} (h : w.ownsRow base 48 21 (.slice (some ⟨g, 0, none⟩) n cap) n (vrows V)) (hn : V.length = n) {q : Nat} (hq : q < V.length) : w.cell? ⟨g, q * 21 + 8, none⟩ = some (.int .i64 V[q].cost) := by
  obtain ⟨gc, cc, e0, _, _, _, hcs⟩ := own_cells h (by omega)
  injection e0 with e1
  injection e1 with e1
  injection e1 with e1
  subst e1
  rw [hcs (q * 21 + 8) (by omega)]
  unfold vrows
  rw [flat_at (s := 21) (by omega) (fun c hc => by obtain ⟨m, _, rfl⟩ := List.mem_map.1 hc; rfl), show (q * 21 + 8) / 21 = q by omega, show (q * 21 + 8) % 21 = 8 by omega, List.getElem?_map, List.getElem?_eq_getElem hq]; rfl
theorem solve_cost {l : List Node} (hv : validNet l = true) {i : Nat} (hi : i < l.length) : 0 ≤ ((solveM l).getD i default).cost ∧ ((solveM l).getD i default).cost ≤ 2400000000 := by
  have h := rounds_cost (ports_ok hv) l.length i hi
  have h12 : l.length ≤ 12 := by
    unfold validNet at hv
    simp only [Bool.and_eq_true, decide_eq_true_eq] at hv
    exact hv.1.1
  unfold solveM
  refine ⟨h.1, ?_⟩
  have := h.2
  omega
theorem Grew.below' {base B : Nat} {v : Value} {w0 w W : World} (h : Grew base v w W) (hb : Below B w0 w) (hB : B ≤ base) : Below B w0 W :=
  ⟨h.grown.os.trans hb.os, h.grown.tape.trans hb.tape, h.grown.output.trans hb.output, Nat.le_trans hb.size h.grown.size, fun k hk =>
    (h.grown.block k (Nat.lt_of_lt_of_le hk (Nat.le_trans hB h.base)) (fun e => by have := h.own k e.symm; omega)).trans (hb.block k hk)⟩
theorem OwnNet.grew {base base' size n : Nat} {w W : World} {e : TypeId} {v v' : Value} {xs : List Value} {M : List (Node × Value)} (h : OwnNet w base v M) (hg : Grew base' v' w W) (hv : w.ownsRow base' e size v' n xs) (h1 : e ≠ 32) (h2 : e ≠ 37) : OwnNet W base v M :=
  ⟨hg.own' hv h.row h1, fun x hx => hg.own' hv (h.mems x hx) h2⟩
/-- A store of whatever operand into a block that is known whole, with its type. -/
theorem wpList_store_blk' {P : Program} {ops : Array Oper} {rest : List Oper} {ty : TypeId} {p : Tmp} {y : Operand} {t' : TypeId} {pos : String} {after : Array Edge} {a : Act} {w : World} {Q : Exit → Act → World → Prop} {b o : Nat} {t : TypeId} (L cs : List Value)
    (hx : a.eval (.tmp p) = .pointer (some ⟨b, o, none⟩)) (hy : (a.eval y).cells = cs.toArray) (hB : Blk w b t L) (ho : o + cs.length ≤ L.length) (hi : (P.info? ty).map (·.size) = some cs.length) (h1 : ∀ v ∈ cs, v.oneCell' = true)
    (h : ∀ W, Blk W b t (L.take o ++ (cs ++ L.drop (o + cs.length))) → Only b w W → wpList P ops Q rest a W) :
    wpList P ops Q (⟨none, .store ty (.tmp p) y, t', pos, after, none⟩ :: rest) a w := by
  have H := h _ (hB.set cs o ho) (Only.setCells cs o ⟨rfl, rfl, rfl, rfl, fun _ _ => rfl⟩)
  refine wpList_plain rfl fun _ hK => ?_
  unfold Oper.wp execOp
  simp only [hx, Instr.storeAt, Instr.sureAddr, Sem.run_bind, Sem.run_pure, Result.andThen_ok, run_storeVar_any w b o ty _ cs hy (hB.box.there o ho) hi h1]
  exact hK _ _ H
end Go.Proofs.Ythpgdipcdllfdaa

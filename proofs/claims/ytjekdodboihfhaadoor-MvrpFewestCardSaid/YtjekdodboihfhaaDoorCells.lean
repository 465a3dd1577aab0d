/- Rows of cells: boxes of a call, whole stores, results that lie in memory. -/
import Derived.Test.YtjekdodboihfhaaDoorQuietTail
import Derived.Deep.MidRow
import Derived.Deep.DeepCutAuto
set_option linter.all false
namespace Go.Proofs.YtjekdodboihfhaaDoor
open Go.RowKit
section
variable {P : Program}
theorem there_of {w : World} {g n : Nat} {C : Array Value} (hc : ∀ j, w.cell? ⟨g, j, none⟩ = C[j]?) (hf : ∀ j, w.frozen? ⟨g, j, none⟩ = false) (hn : C.size = n) : w.there g 0 n := by
  intro j hj
  rw [Nat.zero_add, hc, hf, Array.getElem?_eq_getElem (by omega)]
  exact ⟨rfl, rfl⟩
theorem range_of {w : World} {g : Nat} {cs : List Value} (hc : ∀ j, w.cell? ⟨g, j, none⟩ = cs.toArray[j]?) : w.rangeAt g 0 cs := by
  intro j v hv
  rw [Nat.zero_add, hc]
  simpa using hv
theorem Below.setCells {B g : Nat} {w : World} (hg : B ≤ g) : ∀ (cs : List Value) (o : Nat) {w' : World}, Below B w w' → Below B w (w'.setCells g o cs)
  | [], _, _, h => h
  | v :: r, o, _, h => Below.setCells hg r (o + 1) (h.setCell (by exact hg) v)
theorem rangeAt_below {B g o : Nat} {w w' : World} {cs : List Value} (h : w.rangeAt g o cs) (hb : Below B w w') (hg : g < B) : w'.rangeAt g o cs :=
  fun j v hv => (hb.cell (p := ⟨g, o + j, none⟩) hg).trans (h j v hv)
theorem there_below {B g o n : Nat} {w w' : World} (h : w.there g o n) (hb : Below B w w') (hg : g < B) : w'.there g o n :=
  fun j hj => by rw [hb.cell (p := ⟨g, o + j, none⟩) hg, hb.frozen (p := ⟨g, o + j, none⟩) hg]; exact h j hj
/-- The result lies in memory: a return. -/
theorem ret_cell {fn : Func} {R : Ending → World → Prop} {a : Act} {w : World} {p : Tmp} {ty : TypeId} (h : fn.results = #[.cell p ty]) {g : Nat} (hp : a.tmps.getD p undef = .pointer (some ⟨g, 0, none⟩)) {cs : List Value} {d : TypeDesc}
    (hr : w.rangeAt g 0 cs) (hu : P.underlying ty = some d) (hd : d.isRow = true) (hi : (P.info? ty).map (·.size) = some cs.length) (hdef : a.defers = []) (hR : R (.returned (.agg cs.toArray)) w) : bodyPost P fn R .ret a w := by
  refine ⟨hdef, .agg cs.toArray, ?_, hR⟩
  have hp' : a.tmps[p]?.getD undef = .pointer (some ⟨g, 0, none⟩) := by simpa using hp
  simp [results, h, hp', asAddr, run_loadVar_mid w g 0 ty cs d hr hu hd hi]
/-- A whole store: the world behind it by what is known of it. -/
theorem wpList_store_tmp {ops : Array Oper} {rest : List Oper} {ty : TypeId} {p q : Tmp} {t' : TypeId} {pos : String} {after : Array Edge} {a : Act} {w : World} {Q : Exit → Act → World → Prop} {b : Nat} (cs : List Value)
    (hx : a.eval (.tmp p) = .pointer (some ⟨b, 0, none⟩)) (hy : a.eval (.tmp q) = .agg cs.toArray) (ht : w.there b 0 cs.length) (hi : (P.info? ty).map (·.size) = some cs.length) (h1 : ∀ v ∈ cs, v.oneCell' = true)
    (h : ∀ W, W.rangeAt b 0 cs → (∀ B w0, B ≤ b → Below B w0 w → Below B w0 W) → (∀ g o cs, g ≠ b → w.rangeAt g o cs → W.rangeAt g o cs) → wpList P ops Q rest a W) :
    wpList P ops Q (⟨none, .store ty (.tmp p) (.tmp q), t', pos, after, none⟩ :: rest) a w := by
  refine wpList_store_mid rfl ty (.tmp p) (.tmp q) rfl b 0 cs.toArray hx hy ht hi (all_oneCell_toArray h1) ?_
  refine h _ (World.rangeAt_setCells_same _ _ _ _ (by simpa using ht)) (fun B w0 hB hb => Below.setCells hB _ _ hb) (fun g o cs hg hr => World.rangeAt_setCells_apart hr _ _ _ (.inl hg))
/-- Nothing but block b has turned, and none is new. -/
structure Only (b : Nat) (w W : World) : Prop where
  os : W.os = w.os
  tape : W.tape = w.tape
  output : W.output = w.output
  size : W.heap.size = w.heap.size
  block : ∀ k, k ≠ b → W.heap[k]? = w.heap[k]?
theorem Only.cell {b : Nat} {w W : World} (h : Only b w W) {g o : Nat} (hne : g ≠ b) : W.cell? ⟨g, o, none⟩ = w.cell? ⟨g, o, none⟩ := World.cell?_of_block (w := w) (h.block g hne)
theorem Only.frozen {b : Nat} {w W : World} (h : Only b w W) {g o : Nat} (hne : g ≠ b) : W.frozen? ⟨g, o, none⟩ = w.frozen? ⟨g, o, none⟩ := World.frozen?_of_block (w := w) (h.block g hne)
theorem Only.below {B b : Nat} {w0 w W : World} (h : Only b w W) (hB : B ≤ b) (hb : Below B w0 w) : Below B w0 W :=
  ⟨h.os.trans hb.os, h.tape.trans hb.tape, h.output.trans hb.output, by rw [h.size]; exact hb.size, fun k hk => (h.block k (by omega)).trans (hb.block k hk)⟩
theorem Only.setCells {b : Nat} {w : World} : ∀ (cs : List Value) (o : Nat) {W : World}, Only b w W → Only b w (W.setCells b o cs)
  | [], _, _, h => h
  | v :: r, o, W, h => Only.setCells r (o + 1) ⟨h.os, h.tape, h.output, by rw [← h.size]; simp [World.setCell], fun k hk => (Below.heap_setCell _ _ _ _ hk).trans (h.block k hk)⟩
theorem Only.fresh {w W : World} {o : Obj} (h : Only w.heap.size (w.alloc o) W) : Below w.heap.size w W ∧ w.heap.size < W.heap.size :=
  ⟨h.below (Nat.le_refl _) ((Below.refl _ w).alloc (Nat.le_refl _) _), by rw [h.size]; simp⟩
/-- A block that is known whole. -/
structure Box (w : World) (g : Nat) (L : List Value) : Prop where
  cell : ∀ j, w.cell? ⟨g, j, none⟩ = L.toArray[j]?
  frozen : ∀ j, w.frozen? ⟨g, j, none⟩ = false
theorem Box.below {B g : Nat} {w W : World} {L : List Value} (h : Box w g L) (hb : Below B w W) (hg : g < B) : Box W g L :=
  ⟨fun j => (hb.cell (p := ⟨g, j, none⟩) hg).trans (h.cell j), fun j => (hb.frozen (p := ⟨g, j, none⟩) hg).trans (h.frozen j)⟩
theorem Box.only {b g : Nat} {w W : World} {L : List Value} (h : Box w g L) (ho : Only b w W) (hg : g ≠ b) : Box W g L :=
  ⟨fun j => (ho.cell hg).trans (h.cell j), fun j => (ho.frozen hg).trans (h.frozen j)⟩
theorem Box.there {w : World} {g n : Nat} {L : List Value} (h : Box w g L) (o : Nat) (hn : o + n ≤ L.length) : w.there g o n := by
  intro j hj
  rw [h.cell, h.frozen]
  simp [show o + j < L.length by omega]
theorem Box.range {w : World} {g : Nat} {L : List Value} (h : Box w g L) : w.rangeAt g 0 L := range_of h.cell
theorem Box.new (w : World) (L : List Value) (t : TypeId) : Box (w.alloc (.cells L.toArray t)) w.heap.size L :=
  ⟨(one_box w L.toArray t _ rfl).1, (one_box w L.toArray t _ rfl).2.1⟩
theorem run_storeVar_any (w : World) (b o : Nat) (ty : TypeId) (v : Value) (cs : List Value) (hv : v.cells = cs.toArray) (ht : w.there b o cs.length) (hi : (P.info? ty).map (·.size) = some cs.length) (h1 : ∀ v ∈ cs, v.oneCell' = true) :
    (storeVar ty ⟨b, o, none⟩ v).run P w = .ok () (w.setCells b o cs) := by
  have := run_storeCells_cells (P := P) b o cs 0 w (fun j hj => by simpa using (ht j (by simpa using hj)).1) (fun j hj => by simpa using (ht j (by simpa using hj)).2) h1
  cases hq : P.info? ty with
  | none => simp [hq] at hi
  | some i =>
    have hs : cs.length = i.size := by simp [hq] at hi; omega
    simp only [Nat.add_zero] at this
    simp [storeVar, sizeOf, typeInfo, hq, hv, hs, this]
theorem Box.set {w : World} {b : Nat} {L : List Value} (h : Box w b L) (o : Nat) (cs : List Value) (ho : o + cs.length ≤ L.length) : Box (w.setCells b o cs) b (L.take o ++ (cs ++ L.drop (o + cs.length))) := by
  refine ⟨fun j => ?_, fun j => ?_⟩
  · by_cases hj : o ≤ j ∧ j < o + cs.length
    · have h1 := World.cell?_setCells_in b cs o w (fun i hi => (h.there o ho i hi).1) (j - o) (by omega)
      rw [show o + (j - o) = j by omega] at h1
      rw [h1]
      simp only [List.getElem?_toArray]
      rw [List.getElem?_append_right (by simp; omega), List.getElem?_append_left (by simp; omega), List.length_take, Nat.min_eq_left (by omega), List.getElem?_eq_getElem]
    · rw [World.cell?_setCells_out b cs o w ⟨b, j, none⟩ (fun _ _ => by show j < o ∨ o + cs.length ≤ j; omega), h.cell]
      simp only [List.getElem?_toArray]
      by_cases hlt : j < o
      · rw [List.getElem?_append_left (by simp; omega), List.getElem?_take_of_lt hlt]
      · rw [List.getElem?_append_right (by simp; omega), List.getElem?_append_right (by simp; omega), List.getElem?_drop, List.length_take, Nat.min_eq_left (by omega)]
        congr 1; omega
  · rw [World.frozen?_setCells]; exact h.frozen j
/-- A store into a block that is known whole. -/
theorem wpList_store_box {ops : Array Oper} {rest : List Oper} {ty : TypeId} {p q : Tmp} {t' : TypeId} {pos : String} {after : Array Edge} {a : Act} {w : World} {Q : Exit → Act → World → Prop} {b o : Nat} (L cs : List Value)
    (hx : a.eval (.tmp p) = .pointer (some ⟨b, o, none⟩)) (hy : (a.eval (.tmp q)).cells = cs.toArray) (hB : Box w b L) (ho : o + cs.length ≤ L.length) (hi : (P.info? ty).map (·.size) = some cs.length) (h1 : ∀ v ∈ cs, v.oneCell' = true)
    (h : ∀ W, Box W b (L.take o ++ (cs ++ L.drop (o + cs.length))) → Only b w W → wpList P ops Q rest a W) :
    wpList P ops Q (⟨none, .store ty (.tmp p) (.tmp q), t', pos, after, none⟩ :: rest) a w := by
  have H := h _ (hB.set o cs ho) (Only.setCells cs o ⟨rfl, rfl, rfl, rfl, fun _ _ => rfl⟩)
  refine wpList_plain rfl fun _ hK => ?_
  unfold Oper.wp execOp
  simp only [hx, Instr.storeAt, Instr.sureAddr, Sem.run_bind, Sem.run_pure, Result.andThen_ok, run_storeVar_any w b o ty _ cs hy (hB.there o ho) hi h1]
  exact hK _ _ H
/-- A whole load out of a block that is known whole. -/
theorem wpList_load_box {ops : Array Oper} {rest : List Oper} {d : Tmp} {ty : TypeId} {p : Tmp} {t' : TypeId} {pos : String} {after : Array Edge} {a : Act} {w : World} {Q : Exit → Act → World → Prop} {b : Nat} {ds : TypeDesc} (L : List Value)
    (hx : a.eval (.tmp p) = .pointer (some ⟨b, 0, none⟩)) (hB : Box w b L) (hu : P.underlying ty = some ds) (hd : ds.isRow = true) (hi : (P.info? ty).map (·.size) = some L.length)
    (h : wpList P ops Q rest (a.put (some d) (.agg L.toArray)) w) :
    wpList P ops Q (⟨some d, .load ty (.tmp p), t', pos, after, none⟩ :: rest) a w :=
  wpList_load_mid rfl ty (.tmp p) rfl b 0 hx L ds hB.range hu hd hi h
/-- A load of a row of cells. -/
theorem wpList_load_rng {ops : Array Oper} {rest : List Oper} {d : Tmp} {ty : TypeId} {p : Tmp} {t' : TypeId} {pos : String} {after : Array Edge} {a : Act} {w : World} {Q : Exit → Act → World → Prop} {b o : Nat} {ds : TypeDesc} (L : List Value)
    (hx : a.eval (.tmp p) = .pointer (some ⟨b, o, none⟩)) (hB : w.rangeAt b o L) (hu : P.underlying ty = some ds) (hd : ds.isRow = true) (hi : (P.info? ty).map (·.size) = some L.length)
    (h : wpList P ops Q rest (a.put (some d) (.agg L.toArray)) w) :
    wpList P ops Q (⟨some d, .load ty (.tmp p), t', pos, after, none⟩ :: rest) a w :=
  wpList_load_mid rfl ty (.tmp p) rfl b o hx L ds hB hu hd hi h
/-- Three boxes: what they hold. -/
theorem three_boxes (w : World) (C D E : Array Value) (t u v : TypeId) : ∀ W, W = ((w.alloc (.cells C t)).alloc (.cells D u)).alloc (.cells E v) →
    (∀ j, W.cell? ⟨w.heap.size, j, none⟩ = C[j]?) ∧ (∀ j, W.cell? ⟨w.heap.size + 1, j, none⟩ = D[j]?) ∧ (∀ j, W.cell? ⟨w.heap.size + 1 + 1, j, none⟩ = E[j]?) ∧
    (∀ j, W.frozen? ⟨w.heap.size, j, none⟩ = false) ∧ (∀ j, W.frozen? ⟨w.heap.size + 1, j, none⟩ = false) ∧ (∀ j, W.frozen? ⟨w.heap.size + 1 + 1, j, none⟩ = false) ∧
      w.heap.size < W.heap.size ∧ w.heap.size + 1 < W.heap.size ∧ w.heap.size + 1 + 1 < W.heap.size ∧ Below w.heap.size w W := by
  rintro W rfl
  obtain ⟨h1, h2, h3, h4, h5, h6, h7⟩ := two_boxes w C D t u _ rfl
  have hs : ((w.alloc (.cells C t)).alloc (.cells D u)).heap.size = w.heap.size + 1 + 1 := by simp
  generalize (w.alloc (.cells C t)).alloc (.cells D u) = W at *
  have hb : Below W.heap.size W (W.alloc (.cells E v)) := (Below.refl _ W).alloc (Nat.le_refl _) _
  refine ⟨fun j => ?_, fun j => ?_, fun j => ?_, fun j => ?_, fun j => ?_, fun j => ?_, by simp; omega, by simp; omega, by simp; omega, h7.trans (hb.mono h7.size)⟩
  · rw [hb.cell (p := ⟨w.heap.size, j, none⟩) h5, h1]
  · rw [hb.cell (p := ⟨w.heap.size + 1, j, none⟩) h6, h2]
  · rw [← hs, World.cell?_alloc_mark]
  · rw [hb.frozen (p := ⟨w.heap.size, j, none⟩) h5, h3]
  · rw [hb.frozen (p := ⟨w.heap.size + 1, j, none⟩) h6, h4]
  · rw [← hs, World.frozen?_alloc_mark]; simp
end
end Go.Proofs.YtjekdodboihfhaaDoor

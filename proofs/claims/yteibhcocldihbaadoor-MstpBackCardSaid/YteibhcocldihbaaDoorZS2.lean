/- Rows of one's own, worlds in which one block has been written: over any program. Addresses as plain data, and '==' at them. Links of links, as plain data: what is written, what is read. No program in sight. What bridges tell each other, as plain data: what is written, what is read. No program in sight. BPDUs, as plain data: what is written, what is read. No program in sight. A text that is cut: reading runs out. No program in sight. BPDUs that are cut, and that are read back, as plain data. No program in sight. -/
import Derived.Test.YteibhcocldihbaaDoorZS1
import Derived.Test.YteibhcocldihbaaDoorRows
import Derived.Laws.StructEq
set_option linter.all false
namespace Go.Proofs.YteibhcocldihbaaDoor
open Go.RowKit
theorem laterc {w w1 : World} {b o B : Nat} {v : Value} (hc : w.cell? ⟨b, o, none⟩ = some v) (hb : Below B w w1) (hl : b < B) : w1.cell? ⟨b, o, none⟩ = some v :=
  (hb.cell (p := ⟨b, o, none⟩) hl).trans hc
theorem own_below {w W : World} {base B : Nat} {e : TypeId} {size n : Nat} {v : Value} {xs : List Value} (h : w.ownsRow base e size v n xs) (hb : Below B w W) (hB : w.heap.size ≤ B) : W.ownsRow base e size v n xs := by
  refine ⟨h.1, ?_⟩
  rcases h.2 with h' | ⟨g, cap, cur, e1, e2, hh, r⟩
  · exact .inl h'
  · exact .inr ⟨g, cap, cur, e1, e2, (hb.block g (Nat.lt_of_lt_of_le (Array.getElem?_eq_some_iff.1 hh).1 hB)).trans hh, r⟩
theorem own_only {w W : World} {base b : Nat} {e : TypeId} {size n : Nat} {v : Value} {xs : List Value} (h : w.ownsRow base e size v n xs) (ho : Only b w W) (hne : v.ownBlock ≠ some b) : W.ownsRow base e size v n xs := by
  refine ⟨h.1, ?_⟩
  rcases h.2 with h' | ⟨g, cap, cur, e1, e2, hh, r⟩
  · exact .inl h'
  · refine .inr ⟨g, cap, cur, e1, e2, (ho.block g (fun eg => hne ?_)).trans hh, r⟩
    rw [e1, eg]; rfl
theorem own_only' {w W : World} {base b size n : Nat} {e : TypeId} {v : Value} {xs : List Value} (h : w.ownsRow base e size v n xs) (ho : Only b w W) (hb : b < base) : W.ownsRow base e size v n xs := by
  refine ⟨h.1, ?_⟩
  rcases h.2 with h' | ⟨g, cap, cur, e1, e2, e3, r⟩
  · exact .inl h'
  · exact .inr ⟨g, cap, cur, e1, e2, (ho.block g (by omega)).trans e3, r⟩
theorem own_base {w : World} {base B : Nat} {e : TypeId} {size n : Nat} {v : Value} {xs : List Value} (h : w.ownsRow base e size v n xs) (hB : B ≤ base) : w.ownsRow B e size v n xs := by
  refine ⟨h.1, ?_⟩
  rcases h.2 with h' | ⟨g, cap, cur, e1, e2, r⟩
  · exact .inl h'
  · exact .inr ⟨g, cap, cur, e1, Nat.le_trans hB e2, r⟩
theorem own_shape {w : World} {base : Nat} {e : TypeId} {size n : Nat} {v : Value} {xs : List Value} (h : w.ownsRow base e size v n xs) : ∃ A c, v = .slice A n c := by
  rcases h.2 with ⟨rfl, rfl⟩ | ⟨g, cap, cur, rfl, _⟩
  · exact ⟨none, 0, rfl⟩
  · exact ⟨_, cap, rfl⟩
theorem own_cells {w : World} {base : Nat} {e : TypeId} {size n : Nat} {v : Value} {xs : List Value} (h : w.ownsRow base e size v n xs) (hn : 0 < n) :
    ∃ g c, v = .slice (some ⟨g, 0, none⟩) n c ∧ n ≤ c ∧ base ≤ g ∧ g < w.heap.size ∧ ∀ k, k < n * size → w.cell? ⟨g, k, none⟩ = xs[k]? := by
  rcases h.2 with ⟨_, h0⟩ | ⟨g, cap, cur, e1, e2, e3, e4, _, _, e7⟩
  · omega
  · have hB : Blk w g e cur.toList := by unfold Blk; simpa using e3
    refine ⟨g, cap, e1, e4, e2, hB.lt, fun k hk => ?_⟩
    rw [hB.box.cell k, List.getElem?_toArray, ← e7, List.getElem?_take, if_pos hk]
theorem own_lt {w : World} {base size n : Nat} {e : TypeId} {g cap : Nat} {xs : List Value} (h : w.ownsRow base e size (.slice (some ⟨g, 0, none⟩) n cap) n xs) : base ≤ g ∧ g < w.heap.size := by
  rcases h.2 with ⟨h', _⟩ | ⟨g', cap', cur, e1, e2, e3, _⟩
  · cases h'
  · injection e1 with e1
    injection e1 with e1
    injection e1 with e1
    subst e1
    exact ⟨e2, (Array.getElem?_eq_some_iff.1 e3).1⟩
theorem own_frozen {w : World} {base size n : Nat} {e : TypeId} {g cap : Nat} {xs : List Value} (h : w.ownsRow base e size (.slice (some ⟨g, 0, none⟩) n cap) n xs) (o : Nat) : w.frozen? ⟨g, o, none⟩ = false := by
  rcases h.2 with ⟨h', _⟩ | ⟨g', cap', cur, e1, e2, e3, _⟩
  · cases h'
  · injection e1 with e1
    injection e1 with e1
    injection e1 with e1
    subst e1
    simp [World.frozen?, e3]
/-- One cell of a row of one's own is stored. -/
theorem own_set1 {w : World} {base n cap g size : Nat} {e : TypeId} {xs : List Value} (h : w.ownsRow base e size (.slice (some ⟨g, 0, none⟩) n cap) n xs) {o : Nat} (ho : o < n * size) (x : Value) :
    ∃ L, Blk w g e L ∧ o < L.length ∧ ∀ W, Blk W g e (L.take o ++ ([x] ++ L.drop (o + [x].length))) → W.ownsRow base e size (.slice (some ⟨g, 0, none⟩) n cap) n (xs.set o x) := by
  have hx : xs.length = n * size := h.1
  rcases h.2 with ⟨h0, _⟩ | ⟨g', cap', cur, e1, hb, hh, hc, hm, hs, ht⟩
  · cases h0
  · injection e1 with e1 e2 e3
    injection e1 with e1
    injection e1 with e1
    subst e1 e3
    have hlen : cur.toList.length = cap * size := by simpa using hs
    have hle : n * size ≤ cap * size := Nat.mul_le_mul_right _ hc
    have hoc : o < cur.toList.length := by omega
    have e : cur.toList.take o ++ ([x] ++ cur.toList.drop (o + [x].length)) = cur.toList.set o x := by
      rw [List.set_eq_take_append_cons_drop, if_pos hoc]; rfl
    refine ⟨cur.toList, by unfold Blk; simpa using hh, hoc, fun W hW => ?_⟩
    rw [e] at hW
    refine ⟨by rw [List.length_set]; exact hx, .inr ⟨g, cap, (cur.toList.set o x).toArray, rfl, hb, hW, hc, hm, ?_, ?_⟩⟩
    · simpa using hs
    · rw [← ht]
      simp only [List.toList_toArray]
      rw [List.take_set]
/-- A row of cells of a row of one's own is stored. -/
theorem own_sets {w : World} {base n cap g size : Nat} {e : TypeId} {xs : List Value} (h : w.ownsRow base e size (.slice (some ⟨g, 0, none⟩) n cap) n xs) {o : Nat} (cs : List Value) (ho : o + cs.length ≤ n * size) :
    ∃ L, Blk w g e L ∧ o + cs.length ≤ L.length ∧ ∀ W, Blk W g e (L.take o ++ (cs ++ L.drop (o + cs.length))) → W.ownsRow base e size (.slice (some ⟨g, 0, none⟩) n cap) n (xs.take o ++ (cs ++ xs.drop (o + cs.length))) := by
  have hx : xs.length = n * size := h.1
  rcases h.2 with ⟨h0, _⟩ | ⟨g', cap', cur, e1, hb, hh, hc, hm, hs, ht⟩
  · cases h0
  · injection e1 with e1 e2 e3
    injection e1 with e1
    injection e1 with e1
    subst e1 e3
    have hlen : cur.toList.length = cap * size := by simpa using hs
    have hle : n * size ≤ cap * size := Nat.mul_le_mul_right _ hc
    refine ⟨cur.toList, by unfold Blk; simpa using hh, by omega, fun W hW => ?_⟩
    refine ⟨by simp; omega, .inr ⟨g, cap, (cur.toList.take o ++ (cs ++ cur.toList.drop (o + cs.length))).toArray, rfl, hb, hW, hc, hm, by simp; omega, ?_⟩⟩
    rw [← ht]
    simp only [List.toList_toArray]
    rw [List.take_append, List.take_append, List.length_take, Nat.min_eq_left (by omega), List.take_of_length_le (by rw [List.length_take]; omega), List.take_of_length_le (l := cs) (by omega)]
    rw [List.take_take, Nat.min_eq_left (by omega)]
    congr 2
    rw [List.drop_take]
    congr 1; omega
theorem Grew.own' {base base' : Nat} {w W : World} {e e' : TypeId} {size size' n n' : Nat} {v v' : Value} {xs xs' : List Value} (h : Grew base v w W) (hv : w.ownsRow base e size v n xs) (hr : w.ownsRow base' e' size' v' n' xs') (hne : e ≠ e') : W.ownsRow base' e' size' v' n' xs' := by
  refine ⟨hr.1, ?_⟩
  rcases hr.2 with h' | ⟨g, cap, cur, e1, e2, e3, r⟩
  · exact .inl h'
  · have hB : Blk w g e' cur.toList := by unfold Blk; simpa using e3
    have := h.blk hB (own_ne hv hB hne)
    exact .inr ⟨g, cap, cur, e1, e2, by unfold Blk at this; simpa using this, r⟩
theorem Grew.below' {base B : Nat} {v : Value} {w0 w W : World} (h : Grew base v w W) (hb : Below B w0 w) (hB : B ≤ base) : Below B w0 W :=
  ⟨h.grown.os.trans hb.os, h.grown.tape.trans hb.tape, h.grown.output.trans hb.output, Nat.le_trans hb.size h.grown.size, fun k hk =>
    (h.grown.block k (Nat.lt_of_lt_of_le hk (Nat.le_trans hB h.base)) (fun e => by have := h.own k e.symm; omega)).trans (hb.block k hk)⟩
/-- But for block g all that was there is as it was. -/
structure But (g : Nat) (w W : World) : Prop where
  os : W.os = w.os
  tape : W.tape = w.tape
  output : W.output = w.output
  size : w.heap.size ≤ W.heap.size
  block : ∀ k, k < w.heap.size → k ≠ g → W.heap[k]? = w.heap[k]?
theorem But.refl (g : Nat) (w : World) : But g w w := ⟨rfl, rfl, rfl, Nat.le_refl _, fun _ _ _ => rfl⟩
theorem But.add {g : Nat} {w W X : World} (h : But g w W) (hb : Below W.heap.size W X) : But g w X :=
  ⟨hb.os.trans h.os, hb.tape.trans h.tape, hb.output.trans h.output, Nat.le_trans h.size hb.size, fun k hk hg => (hb.block k (Nat.lt_of_lt_of_le hk h.size)).trans (h.block k hk hg)⟩
theorem But.only {g : Nat} {w W X : World} (h : But g w W) (ho : Only g W X) : But g w X :=
  ⟨ho.os.trans h.os, ho.tape.trans h.tape, ho.output.trans h.output, by rw [ho.size]; exact h.size, fun k hk hg => (ho.block k hg).trans (h.block k hk hg)⟩
theorem But.below {g B : Nat} {w0 w W : World} (h : But g w W) (hb : Below B w0 w) (hB : B ≤ g) (hs : B ≤ w.heap.size) : Below B w0 W :=
  ⟨h.os.trans hb.os, h.tape.trans hb.tape, h.output.trans hb.output, Nat.le_trans hb.size h.size, fun k hk => (h.block k (by omega) (by omega)).trans (hb.block k hk)⟩
theorem own_but {w W : World} {base b size n : Nat} {e : TypeId} {v : Value} {xs : List Value} (h : w.ownsRow base e size v n xs) (ho : But b w W) (hb : b < base) : W.ownsRow base e size v n xs := by
  refine ⟨h.1, ?_⟩
  rcases h.2 with h' | ⟨g, cap, cur, e1, e2, e3, r⟩
  · exact .inl h'
  · exact .inr ⟨g, cap, cur, e1, e2, (ho.block g (Array.getElem?_eq_some_iff.1 e3).1 (by omega)).trans e3, r⟩
theorem flat_len {s : Nat} : ∀ {C : List (List Value)}, (∀ c ∈ C, c.length = s) → C.flatten.length = C.length * s
  | [], _ => by simp
  | c :: C, h => by
    rw [List.flatten_cons, List.length_append, flat_len (fun d hd => h d (List.mem_cons_of_mem _ hd)), h c (List.mem_cons_self ..), List.length_cons, Nat.add_mul]; omega
theorem flat_at {s : Nat} (hs : 0 < s) : ∀ {C : List (List Value)}, (∀ c ∈ C, c.length = s) → ∀ j, C.flatten[j]? = (C[j / s]?.getD [])[j % s]?
  | [], _, j => by simp
  | c :: C, h, j => by
    have hc := h c (List.mem_cons_self ..)
    rw [List.flatten_cons]
    by_cases hj : j < s
    · rw [List.getElem?_append_left (by omega), Nat.div_eq_of_lt hj, Nat.mod_eq_of_lt hj]; rfl
    · rw [List.getElem?_append_right (by omega), hc, flat_at hs (fun d hd => h d (List.mem_cons_of_mem _ hd)) (j - s)]
      have e1 : j / s = (j - s) / s + 1 := by
        have := Nat.add_div_right (j - s) hs
        rw [Nat.sub_add_cancel (by omega)] at this
        exact this
      have e2 : j % s = (j - s) % s := by
        have := Nat.add_mod_right (j - s) s
        rw [Nat.sub_add_cancel (by omega)] at this
        exact this
      rw [e1, e2, List.getElem?_cons_succ]
theorem flat_cells {w : World} {x : Addr} {s : Nat} (hs : 0 < s) {C : List (List Value)} (hC : ∀ c ∈ C, c.length = s) (h : ∀ (k : Nat) (hk : k < C.length), ∀ j u, C[k][j]? = some u → w.cell? (x.add (k * s + j)) = some u) :
    ∀ j u, C.flatten[j]? = some u → w.cell? (x.add j) = some u := by
  intro j u hj
  have hlt : j < C.length * s := by
    have := (List.getElem?_eq_some_iff.1 hj).1
    rw [flat_len hC] at this; exact this
  have hk : j / s < C.length := Nat.div_lt_of_lt_mul (by rw [Nat.mul_comm]; exact hlt)
  rw [flat_at hs hC] at hj
  have := h (j / s) hk (j % s) u (by
    rw [List.getElem?_eq_getElem hk] at hj; exact hj)
  rw [Nat.mul_comm, Nat.div_add_mod] at this
  exact this
/-- A row's cells by number. -/
theorem flat_set {s : Nat} (hs : 0 < s) : ∀ {C : List (List Value)}, (∀ c ∈ C, c.length = s) → ∀ {k o : Nat} (_ : k < C.length) (_ : o < s) (x : Value), C.flatten.set (k * s + o) x = (C.set k ((C.getD k []).set o x)).flatten
  | [], _, k, o, hk, _, _ => absurd hk (by simp)
  | c :: C, h, k, o, hk, ho, x => by
    have hc := h c (List.mem_cons_self ..)
    cases k with
    | zero =>
      simp only [Nat.zero_mul, Nat.zero_add, List.flatten_cons, List.set_cons_zero]
      rw [List.set_append_left _ _ (by omega)]; rfl
    | succ k =>
      simp only [List.flatten_cons, List.set_cons_succ]
      rw [List.set_append_right _ _ (by rw [hc, Nat.add_mul]; omega), hc, show (k + 1) * s + o - s = k * s + o by rw [Nat.add_mul]; omega, flat_set hs (fun d hd => h d (List.mem_cons_of_mem _ hd)) (by simpa using hk) ho]; rfl
theorem flat_sets {s : Nat} (hs : 0 < s) : ∀ {C : List (List Value)}, (∀ c ∈ C, c.length = s) → ∀ {k : Nat} (_ : k < C.length) (x : List Value) (_ : x.length = s), C.flatten.take (k * s) ++ (x ++ C.flatten.drop (k * s + x.length)) = (C.set k x).flatten
  | [], _, k, hk, _, _ => absurd hk (by simp)
  | c :: C, h, k, hk, x, hx => by
    have hc := h c (List.mem_cons_self ..)
    cases k with
    | zero =>
      simp only [Nat.zero_mul, Nat.zero_add, List.flatten_cons, List.set_cons_zero, List.take_zero, List.nil_append]
      congr 1
      rw [List.drop_append, List.drop_of_length_le (by omega), hc, hx, Nat.sub_self]; rfl
    | succ k =>
      have ih := flat_sets hs (fun d hd => h d (List.mem_cons_of_mem _ hd)) (by simpa using hk : k < C.length) x hx
      simp only [List.flatten_cons, List.set_cons_succ]
      rw [← ih, List.take_append, List.take_of_length_le (by rw [hc, Nat.add_mul]; omega), List.drop_append, List.drop_of_length_le (by rw [hc, Nat.add_mul]; omega), hc]
      rw [show (k + 1) * s - s = k * s by rw [Nat.add_mul]; omega, show (k + 1) * s + x.length - s = k * s + x.length by rw [Nat.add_mul]; omega]
      simp
/-- 'append(s, x...)': the source wherever. -/
theorem wpList_append_from {P : Program} {ops : Array Oper} {rest : List Oper} {d s x : Tmp} {t t' : TypeId} {pos : String} {after : Array Edge} {a : Act} {w : World} {Q : Exit → Act → World → Prop} {e : TypeId} {size bytes base n m c : Nat} {v : Value} {from_ : Addr} (xs news : List Value)
    (E : ElemOk P t e size bytes) (hs : a.eval (.tmp s) = v) (hx : a.eval (.tmp x) = .slice (some from_) m c) (hown : w.ownsRow base e size v n xs) (hr : ∀ j u, news[j]? = some u → w.cell? (from_.add j) = some u) (hl : news.length = m * size) (h1 : ∀ u ∈ news, u.oneCell' = true)
    (h63 : n + m ≤ maxLen) (hbytes : (n + m) * bytes ≤ 140737488355328) (hbase : base ≤ w.heap.size)
    (h : ∀ v' W, W.ownsRow base e size v' (n + m) (xs ++ news) → Grew base v w W → wpList P ops Q rest (a.put (some d) v') W) :
    wpList P ops Q (⟨some d, .call { callee := .builtin .append, args := #[.tmp s, .tmp x], argTypes := #[t, t] }, t', pos, after, none⟩ :: rest) a w := by
  obtain ⟨ht, i, z, hi, hz, hsz, hby, hzs, hpos⟩ := E
  refine wpList_append_own w rfl (.tmp s) (.tmp x) t rfl base e i z size bytes ht hi hz hsz hby hzs hpos v n xs hs hown from_ m c news hx hl hr h1 h63 hbytes hbase ?_
  intro v' W h2 h3 _
  exact h v' W h2 ⟨h3, fun k hk => (hown.lt k hk).1, hbase⟩
/-- A store of whatever operand into a block that is known whole, with its type. -/
theorem wpList_store_blk' {P : Program} {ops : Array Oper} {rest : List Oper} {ty : TypeId} {p : Tmp} {y : Operand} {t' : TypeId} {pos : String} {after : Array Edge} {a : Act} {w : World} {Q : Exit → Act → World → Prop} {b o : Nat} {t : TypeId} (L cs : List Value)
    (hx : a.eval (.tmp p) = .pointer (some ⟨b, o, none⟩)) (hy : (a.eval y).cells = cs.toArray) (hB : Blk w b t L) (ho : o + cs.length ≤ L.length) (hi : (P.info? ty).map (·.size) = some cs.length) (h1 : ∀ v ∈ cs, v.oneCell' = true)
    (h : ∀ W, Blk W b t (L.take o ++ (cs ++ L.drop (o + cs.length))) → Only b w W → wpList P ops Q rest a W) :
    wpList P ops Q (⟨none, .store ty (.tmp p) y, t', pos, after, none⟩ :: rest) a w := by
  have H := h _ (hB.set cs o ho) (Only.setCells cs o ⟨rfl, rfl, rfl, rfl, fun _ _ => rfl⟩)
  refine wpList_plain rfl fun _ hK => ?_
  unfold Oper.wp execOp
  simp only [hx, Instr.storeAt, Instr.sureAddr, Sem.run_bind, Sem.run_pure, Result.andThen_ok, run_storeVar_any w b o ty _ cs hy (hB.box.there o ho) hi h1]
  exact hK _ _ H
/-- A slice of rows of s cells: what it holds. -/
def SlRow (w : World) (B s : Nat) (A : Option Addr) (C : List (List Value)) : Prop :=
  0 < C.length → ∃ g o, A = some ⟨g, o, none⟩ ∧ g < B ∧ ∀ (k : Nat) (hk : k < C.length), w.rangeAt g (o + k * s) C[k]
theorem SlRow.below {w W : World} {B B' s : Nat} {A : Option Addr} {C : List (List Value)} (h : SlRow w B s A C) (hb : Below B' w W) (hB : B ≤ B') : SlRow W B s A C := by
  intro hn
  obtain ⟨g, o, e, hg, hr⟩ := h hn
  exact ⟨g, o, e, hg, fun k hk => rangeAt_below (hr k hk) hb (by omega)⟩
theorem SlRow.more {w : World} {B B' s : Nat} {A : Option Addr} {C : List (List Value)} (h : SlRow w B s A C) (hB : B ≤ B') : SlRow w B' s A C := fun hn => by
  obtain ⟨g, o, e, hg, hr⟩ := h hn
  exact ⟨g, o, e, by omega, hr⟩
def idxP {α : Type} (p : α → Bool) (xs : List α) : Int := if xs.any p = true then (xs.findIdx p : Int) else -1
theorem idxP_found {α : Type} (p : α → Bool) (xs : List α) (k : Nat) (hk : k < xs.length) (h : p xs[k] = true) (hb : ∀ j (hj : j < k), p (xs[j]'(by omega)) = false) : idxP p xs = k := by
  unfold idxP
  have ha : xs.any p = true := List.any_eq_true.2 ⟨xs[k], List.getElem_mem hk, h⟩
  rw [if_pos ha]
  have : xs.findIdx p = k := by
    rw [List.findIdx_eq hk]
    exact ⟨h, fun j hj => hb j hj⟩
  rw [this]
theorem idxP_none {α : Type} (p : α → Bool) (xs : List α) (hb : ∀ j (hj : j < xs.length), p xs[j] = false) : idxP p xs = -1 := by
  unfold idxP
  have : xs.any p = false := by
    rw [List.any_eq_false]
    intro x hx
    obtain ⟨j, hj, rfl⟩ := List.getElem_of_mem hx
    rw [hb j hj]; simp
  rw [this]; rfl
theorem idxP_any {α : Type} (p : α → Bool) (xs : List α) : decide (0 ≤ idxP p xs) = xs.any p := by
  unfold idxP
  cases xs.any p
  · rfl
  · simp
theorem rng_left {w : World} {g o : Nat} {a b : List Value} (h : w.rangeAt g o (a ++ b)) : w.rangeAt g o a := fun j v hv => h j v (by
  rw [List.getElem?_append_left (List.getElem?_eq_some_iff.1 hv).1]; exact hv)
theorem rng_right {w : World} {g o : Nat} {a b : List Value} (h : w.rangeAt g o (a ++ b)) : w.rangeAt g (o + a.length) b := fun j v hv => by
  have := h (a.length + j) v (by rw [List.getElem?_append_right (by omega), Nat.add_sub_cancel_left]; exact hv)
  rw [Nat.add_assoc]; exact this
end Go.Proofs.YteibhcocldihbaaDoor
namespace Go.Proofs.YteibhcocldihbaaDoor
open Go.RowKit
structure Ad where
  a : UInt8
  b : UInt8
  c : UInt8
  d : UInt8
  e : UInt8
  f : UInt8
deriving DecidableEq, Inhabited
def Ad.list (x : Ad) : List UInt8 := [x.a, x.b, x.c, x.d, x.e, x.f]
theorem Ad.inj {x y : Ad} (h : x.list = y.list) : x = y := by
  cases x; cases y; simpa [Ad.list] using h
theorem u8_int {x y : UInt8} (h : (x.toNat : Int) = y.toNat) : x = y := UInt8.toNat_inj.1 (by omega)
def Ad.vals (x : Ad) : List Value := [.int .u8 x.a.toNat, .int .u8 x.b.toNat, .int .u8 x.c.toNat, .int .u8 x.d.toNat, .int .u8 x.e.toNat, .int .u8 x.f.toNat]
@[go_sem] def eqElems (d : Nat) (e : TypeId) (xs ys : Array Value) (n : Nat) : List Nat → Sem Bool
  | [] => pure true
  | i :: r => do
    let a ← part e xs (i * n)
    let b ← part e ys (i * n)
    let c ← Op.equalIn d e a b
    if (!c) = true then pure false else eqElems d e xs ys n r
theorem run_equalIn_array {P : Program} (w : World) (d len n : Nat) (t e : TypeId) (xs ys : Array Value) (ht : P.underlying t = some (.array len e)) (hn : ∀ w, (sizeOf e).run P w = .ok n w) :
    (Op.equalIn (d + 1) t (.agg xs) (.agg ys)).run P w = (eqElems d e xs ys n (List.range' 0 len)).run P w := by
  simp only [Op.equalIn, Sem.run_bind, run_underlying ht, Result.andThen_ok, hn]
  rw [Std.Legacy.Range.forIn_eq_forIn_range']
  simp only [Std.Legacy.Range.size, Nat.sub_zero, Nat.add_sub_cancel, Nat.div_one]
  generalize List.range' 0 len = l
  clear ht hn
  induction l generalizing w with
  | nil => simp [eqElems]
  | cons i l ih =>
    simp only [List.forIn_cons, eqElems, Sem.run_bind, Sem.run_ite]
    generalize (part e xs (i * n)).run P w = r1
    cases r1 with
    | ok a w1 =>
      simp only [Result.andThen_ok]
      generalize (part e ys (i * n)).run P w1 = r2
      cases r2 with
      | ok b w2 =>
        simp only [Result.andThen_ok]
        generalize (Op.equalIn d e a b).run P w2 = r3
        cases r3 with
        | ok r w3 =>
          cases r
          · simp only [Result.andThen_ok, Bool.not_false, if_true, Sem.run_pure]
          · simp only [Result.andThen_ok, Bool.not_true, Bool.false_eq_true, if_false, Sem.run_pure]
            exact ih w3
        | halt x w3 => simp [Result.andThen]
      | halt x w2 => simp [Result.andThen]
    | halt x w1 => simp [Result.andThen]
theorem ad_eqIn (x y : Ad) (d : Nat) (W : World) : (Op.equalIn (d + 1 + 1) 23 (.agg x.vals.toArray) (.agg y.vals.toArray)).run Tryd.prog W = .ok (decide (x = y)) W := by
  have u5 := Tryd.underlying5
  have a5 := Tryd.isAgg5
  have z5 := Tryd.sizeOf5
  obtain ⟨a, b, c, e, f, g⟩ := x
  obtain ⟨a', b', c', e', f', g'⟩ := y
  rw [run_equalIn_array W (d + 1) 6 1 _ 5 _ _ Tryd.underlying23 z5]
  simp only [Ad.vals, show List.range' 0 6 = [0, 1, 2, 3, 4, 5] from rfl]
  have hi : ∀ (m n : UInt8), ((m.toNat : Int) == (n.toNat : Int)) = decide (m = n) := fun m n => by
    by_cases h : m = n
    · simp [h]
    · have : m.toNat ≠ n.toNat := fun e => h (UInt8.toNat_inj.1 e)
      simp [h]; omega
  go_simp
  by_cases h1 : a = a' <;> by_cases h2 : b = b' <;> by_cases h3 : c = c' <;> by_cases h4 : e = e' <;> by_cases h5 : f = f' <;> by_cases h6 : g = g' <;> simp [h1, h2, h3, h4, h5, h6]
theorem ad_eq (x y : Ad) (W : World) : (binOp .eql 23 (.agg x.vals.toArray) (.agg y.vals.toArray)).run Tryd.prog W = .ok (.bool (decide (x = y))) W := by
  rw [run_eql_struct, show (10000 : Nat) = 9998 + 1 + 1 from rfl, ad_eqIn]; rfl
theorem ad_guard (op : BinOp) (x y : Ad) (p q : Operand) (W : World) : (eqGuard op 23 p q (.agg x.vals.toArray) (.agg y.vals.toArray)).run Tryd.prog W = .ok () W := run_eqGuard_agg W op _ p q _ _ (by kernel_rfl)
theorem Ad.one (x : Ad) : ∀ v ∈ x.vals, v.oneCell' = true := fun v hv => by
  simp only [Ad.vals, List.mem_cons, List.not_mem_nil, or_false] at hv
  rcases hv with rfl | rfl | rfl | rfl | rfl | rfl <;> rfl
theorem info23 : (Tryd.prog.info? 23).map (·.size) = some 6 := by kernel_rfl
end Go.Proofs.YteibhcocldihbaaDoor
namespace Go.Proofs.YteibhcocldihbaaDoor
/-- Six bytes that are copied into an array of noughts. -/
def Ad.of (l : List UInt8) : Ad := ⟨l.getD 0 0, l.getD 1 0, l.getD 2 0, l.getD 3 0, l.getD 4 0, l.getD 5 0⟩
theorem Ad.of_list (x : Ad) : Ad.of x.list = x := rfl
theorem Ad.len (x : Ad) : x.list.length = 6 := rfl
theorem Ad.list_of {l : List UInt8} (h : l.length = 6) : (Ad.of l).list = l := by
  match l, h with
  | [_, _, _, _, _, _], _ => rfl
structure Pty where
  sp : Int
  sys : Ad
  key : Int
  pp : Int
  port : Int
  st : Int
deriving DecidableEq, Inhabited
structure Lac where
  ac : Pty
  pa : Pty
  delay : Int
deriving DecidableEq, Inhabited
def sh (n : Int) : Bool := decide (0 ≤ n) && decide (n ≤ 65535)
theorem sh_iff {n : Int} : sh n = true ↔ 0 ≤ n ∧ n ≤ 65535 := by simp [sh]
def Pty.okB (p : Pty) : Bool := sh p.sp && sh p.key && sh p.pp && sh p.port && (decide (0 ≤ p.st) && decide (p.st ≤ 255))
def Lac.okB (l : Lac) : Bool := l.ac.okB && l.pa.okB && sh l.delay
structure Pty.Ok (p : Pty) : Prop where
  sp0 : 0 ≤ p.sp
  sp1 : p.sp ≤ 65535
  key0 : 0 ≤ p.key
  key1 : p.key ≤ 65535
  pp0 : 0 ≤ p.pp
  pp1 : p.pp ≤ 65535
  port0 : 0 ≤ p.port
  port1 : p.port ≤ 65535
  st0 : 0 ≤ p.st
  st1 : p.st ≤ 255
theorem Pty.ok_iff {p : Pty} : p.okB = true ↔ p.Ok := by
  constructor
  · intro h
    simp only [Pty.okB, sh, Bool.and_eq_true, decide_eq_true_eq] at h
    obtain ⟨⟨⟨⟨⟨a, b⟩, c, d⟩, e, f⟩, g, i⟩, j, k⟩ := h
    exact ⟨a, b, c, d, e, f, g, i, j, k⟩
  · rintro ⟨a, b, c, d, e, f, g, i, j, k⟩
    simp only [Pty.okB, sh, Bool.and_eq_true, decide_eq_true_eq]
    exact ⟨⟨⟨⟨⟨a, b⟩, c, d⟩, e, f⟩, g, i⟩, j, k⟩
theorem Lac.ok_iff {l : Lac} : l.okB = true ↔ l.ac.Ok ∧ l.pa.Ok ∧ 0 ≤ l.delay ∧ l.delay ≤ 65535 := by
  simp only [Lac.okB, Bool.and_eq_true, Pty.ok_iff, sh_iff]
  constructor
  · rintro ⟨⟨a, b⟩, c⟩; exact ⟨a, b, c⟩
  · rintro ⟨a, b, c⟩; exact ⟨⟨a, b⟩, c⟩
/-- A side as bytes, but for its last three. -/
def sideC (kind : Nat) (p : Pty) : List UInt8 := beBytes kind 1 ++ [0x14] ++ beBytes p.sp.toNat 2 ++ p.sys.list ++ beBytes p.key.toNat 2 ++ beBytes p.pp.toNat 2 ++ beBytes p.port.toNat 2 ++ beBytes p.st.toNat 1
def sideB (kind : Nat) (p : Pty) : List UInt8 := sideC kind p ++ [0, 0, 0]
theorem sideC_len (kind : Nat) (p : Pty) : (sideC kind p).length = 17 := by simp [sideC, beBytes_len, Ad.list]
theorem sideB_len (kind : Nat) (p : Pty) : (sideB kind p).length = 20 := by simp [sideB, sideC_len]
/-- The bytes, with those that stand for nothing. -/
def Lac.bytesF (l : Lac) (f1 f2 f3 f4 : List UInt8) : List UInt8 := [1, 1] ++ (sideC 1 l.ac ++ f1) ++ (sideC 2 l.pa ++ f2) ++ [3, 16] ++ beBytes l.delay.toNat 2 ++ f3 ++ [0, 0] ++ f4
def Lac.bytes (l : Lac) : List UInt8 := [1, 1] ++ sideB 1 l.ac ++ sideB 2 l.pa ++ [3, 16] ++ beBytes l.delay.toNat 2 ++ List.replicate 64 0
theorem Lac.bytes_eq (l : Lac) : l.bytes = l.bytesF [0, 0, 0] [0, 0, 0] (List.replicate 12 0) (List.replicate 50 0) := by
  unfold Lac.bytes Lac.bytesF sideB
  simp only [List.append_assoc]
  rfl
theorem Lac.bytes_len (l : Lac) : l.bytes.length = 110 := by simp [Lac.bytes, sideB_len, beBytes_len]
def readSideM (R : RS) (kind : Nat) : Pty × RS :=
  let R0 := headM R (beBytes kind 1 ++ [0x14])
  let n1 := numM R0 2
  let b2 := bytesM n1.2 6
  let n3 := numM b2.2 2
  let n4 := numM n3.2 2
  let n5 := numM n4.2 2
  let n6 := numM n5.2 1
  (⟨n1.1, Ad.of b2.1, n3.1, n4.1, n5.1, n6.1⟩, (bytesM n6.2 3).2)
def readLacM (s : List UInt8) : Lac × Bool × RS :=
  let R0 := headM (newM s 0) [1, 1]
  let a := readSideM R0 1
  let p := readSideM a.2 2
  let R3 := headM p.2 [3, 16]
  let d := numM R3 2
  let b := bytesM d.2 12
  let R5 := headM b.2 [0, 0]
  let c := bytesM R5 50
  (⟨a.1, p.1, d.1⟩, zerosM c.2)
theorem RS.ok.side {R : RS} (h : R.ok) (kind : Nat) : (readSideM R kind).2.ok := by
  unfold readSideM
  exact (((((((h.head _).num 2).bytes 6).num 2).num 2).num 2).num 1).bytes 3
theorem readSide_left {R : RS} {kind : Nat} {p : Pty} {f rest : List UInt8} (hp : p.Ok) (hf : f.length = 3) (h : R.Left (sideC kind p ++ f ++ rest)) : ∃ R', readSideM R kind = (p, R') ∧ R'.Left rest := by
  have h0 : R.Left ((beBytes kind 1 ++ [0x14]) ++ (beBytes p.sp.toNat 2 ++ (p.sys.list ++ (beBytes p.key.toNat 2 ++ (beBytes p.pp.toNat 2 ++ (beBytes p.port.toNat 2 ++ (beBytes p.st.toNat 1 ++ (f ++ rest)))))))) := by
    simpa [sideC, List.append_assoc] using h
  obtain ⟨a, b, c, d, e, g, i, j, k, l⟩ := hp
  have h1 := h0.skip rfl
  have h2 := h1.skip (beBytes_len _ 2)
  have h3 := h2.skip (Ad.len _)
  have h4 := h3.skip (beBytes_len _ 2)
  have h5 := h4.skip (beBytes_len _ 2)
  have h6 := h5.skip (beBytes_len _ 2)
  have h7 := h6.skip (beBytes_len _ 1)
  have h8 := h7.skip hf
  refine ⟨_, ?_, h8⟩
  unfold readSideM
  simp only [headM_left h0, numM_be h1 (show p.sp.toNat < 256 ^ 2 by omega), bytesM_left h2 (Ad.len _), numM_be h3 (show p.key.toNat < 256 ^ 2 by omega), numM_be h4 (show p.pp.toNat < 256 ^ 2 by omega), numM_be h5 (show p.port.toNat < 256 ^ 2 by omega), numM_be h6 (show p.st.toNat < 256 ^ 1 by omega), bytesM_left h7 hf, Ad.of_list]
  cases p
  simp only [Prod.mk.injEq, Pty.mk.injEq, and_true, true_and] at *
  omega
theorem readLac_left (l : Lac) (f1 f2 f3 f4 : List UInt8) (hl : l.okB = true) (h1 : f1.length = 3) (h2 : f2.length = 3) (h3 : f3.length = 12) (h4 : f4.length = 50) : ∃ R, readLacM (l.bytesF f1 f2 f3 f4) = (l, true, R) ∧ R.err = none := by
  obtain ⟨ha, hp, hd0, hd1⟩ := Lac.ok_iff.1 hl
  have hlen : (l.bytesF f1 f2 f3 f4).length = 110 := by simp [Lac.bytesF, sideC_len, beBytes_len, h1, h2, h3, h4]
  have g0 : (newM (l.bytesF f1 f2 f3 f4) 0).Left ([1, 1] ++ ((sideC 1 l.ac ++ f1) ++ ((sideC 2 l.pa ++ f2) ++ ([3, 16] ++ (beBytes l.delay.toNat 2 ++ (f3 ++ ([0, 0] ++ (f4 ++ [])))))))) := by
    have := newM_left (l.bytesF f1 f2 f3 f4) 0 (by omega)
    simpa [Lac.bytesF, List.append_assoc] using this
  have g1 := g0.skip rfl
  obtain ⟨Ra, ea, g2⟩ := readSide_left (kind := 1) ha h1 g1
  obtain ⟨Rp, ep, g3⟩ := readSide_left (kind := 2) hp h2 g2
  have g4 := g3.skip rfl
  have g5 := g4.skip (beBytes_len _ 2)
  have g6 := g5.skip h3
  have g7 := g6.skip rfl
  have g8 := g7.skip h4
  refine ⟨{ (((((Rp.skip 2).skip 2).skip 12).skip 2).skip 50) with at_ := (((((Rp.skip 2).skip 2).skip 12).skip 2).skip 50).s.length }, ?_, g8.none⟩
  · unfold readLacM
    simp only [headM_left g0, ea, ep, headM_left g3, numM_be g4 (show l.delay.toNat < 256 ^ 2 by omega), bytesM_left g5 h3, headM_left g6, bytesM_left g7 h4, zerosM_left g8 (by simp)]
    rw [show ((l.delay.toNat : Nat) : Int) = l.delay by omega]
    rfl
/-- A byte that stands for nothing, changed. -/
theorem Lac.bytesF_set (l : Lac) (f1 f2 f3 f4 : List UInt8) (h1 : f1.length = 3) (h2 : f2.length = 3) (h3 : f3.length = 12) (h4 : f4.length = 50) (k : Nat) (c : UInt8)
    (hk : (19 ≤ k ∧ k ≤ 21) ∨ (39 ≤ k ∧ k ≤ 41) ∨ (46 ≤ k ∧ k ≤ 57) ∨ (60 ≤ k ∧ k ≤ 109)) : ∃ g1 g2 g3 g4, g1.length = 3 ∧ g2.length = 3 ∧ g3.length = 12 ∧ g4.length = 50 ∧ (l.bytesF f1 f2 f3 f4).set k c = l.bytesF g1 g2 g3 g4 := by
  have hA : ([1, 1] ++ sideC 1 l.ac : List UInt8).length = 19 := by simp [sideC_len]
  have hB : (sideC 2 l.pa).length = 17 := sideC_len _ _
  have hC : ([3, 16] ++ beBytes l.delay.toNat 2 : List UInt8).length = 4 := by simp [beBytes_len]
  have e : ∀ a b c d, l.bytesF a b c d = ([1, 1] ++ sideC 1 l.ac) ++ (a ++ (sideC 2 l.pa ++ (b ++ (([3, 16] ++ beBytes l.delay.toNat 2) ++ (c ++ ([0, 0] ++ d)))))) := fun a b c d => by simp [Lac.bytesF, List.append_assoc]
  simp only [e]
  generalize ([1, 1] ++ sideC 1 l.ac : List UInt8) = A at *
  generalize sideC 2 l.pa = B at *
  generalize ([3, 16] ++ beBytes l.delay.toNat 2 : List UInt8) = C at *
  rcases hk with hk | hk | hk | hk
  · refine ⟨f1.set (k - 19) c, f2, f3, f4, by simpa using h1, h2, h3, h4, ?_⟩
    rw [List.set_append_right _ _ (by omega), List.set_append_left _ _ (by omega), hA]
  · refine ⟨f1, f2.set (k - 39) c, f3, f4, h1, by simpa using h2, h3, h4, ?_⟩
    rw [List.set_append_right _ _ (by omega), List.set_append_right _ _ (by omega), List.set_append_right _ _ (by omega), List.set_append_left _ _ (by omega), hA, hB, h1]
    congr 5
  · refine ⟨f1, f2, f3.set (k - 46) c, f4, h1, h2, by simpa using h3, h4, ?_⟩
    rw [List.set_append_right _ _ (by omega), List.set_append_right _ _ (by omega), List.set_append_right _ _ (by omega), List.set_append_right _ _ (by omega), List.set_append_right _ _ (by omega), List.set_append_left _ _ (by omega), hA, hB, h1, hC, h2]
    congr 7
  · refine ⟨f1, f2, f3, f4.set (k - 60) c, h1, h2, h3, by simpa using h4, ?_⟩
    rw [List.set_append_right _ _ (by omega), List.set_append_right _ _ (by omega), List.set_append_right _ _ (by omega), List.set_append_right _ _ (by omega), List.set_append_right _ _ (by omega), List.set_append_right _ _ (by omega), List.set_append_right _ _ (by simp; omega), hA, hB, h1, hC, h2, h3]
    congr 8
end Go.Proofs.YteibhcocldihbaaDoor
namespace Go.Proofs.YteibhcocldihbaaDoor
structure Br where
  prio : Int
  ext : Int
  ad : Ad
deriving DecidableEq, Inhabited
structure Pt where
  prio : Int
  no : Int
deriving DecidableEq, Inhabited
structure Fl where
  change : Bool
  proposal : Bool
  role : Int
  learn : Bool
  pass : Bool
  agree : Bool
  ack : Bool
deriving DecidableEq, Inhabited
def Br.okB (b : Br) : Bool := decide (0 ≤ b.prio) && (decide (b.prio ≤ 61440) && (decide (b.prio % 4096 = 0) && (decide (0 ≤ b.ext) && decide (b.ext ≤ 4095))))
def Pt.okB (p : Pt) : Bool := decide (0 ≤ p.prio) && (decide (p.prio ≤ 240) && (decide (p.prio % 16 = 0) && (decide (1 ≤ p.no) && decide (p.no ≤ 4095))))
theorem Br.ok_iff {b : Br} : b.okB = true ↔ 0 ≤ b.prio ∧ b.prio ≤ 61440 ∧ b.prio % 4096 = 0 ∧ 0 ≤ b.ext ∧ b.ext ≤ 4095 := by simp [Br.okB]
theorem Pt.ok_iff {p : Pt} : p.okB = true ↔ 0 ≤ p.prio ∧ p.prio ≤ 240 ∧ p.prio % 16 = 0 ∧ 1 ≤ p.no ∧ p.no ≤ 4095 := by simp [Pt.okB]
def Br.bytes (b : Br) : List UInt8 := beBytes (b.prio + b.ext).toNat 2 ++ b.ad.list
def Pt.bytes (p : Pt) : List UInt8 := beBytes (p.prio * 256 + p.no).toNat 2
theorem Br.bytes_len (b : Br) : b.bytes.length = 8 := by simp [Br.bytes, beBytes_len, Ad.list]
theorem Pt.bytes_len (p : Pt) : p.bytes.length = 2 := beBytes_len _ _
def readBrM (R : RS) : Br × RS := (⟨((numM R 2).1 / 4096 * 4096 : Nat), ((numM R 2).1 % 4096 : Nat), Ad.of (bytesM (numM R 2).2 6).1⟩, (bytesM (numM R 2).2 6).2)
def readPtM (R : RS) : Pt × RS := (⟨((numM R 2).1 / 4096 * 16 : Nat), ((numM R 2).1 % 4096 : Nat)⟩, if (numM R 2).2.err = none ∧ (numM R 2).1 % 4096 = 0 then failM (numM R 2).2 2 (R.place : Int) else (numM R 2).2)
theorem RS.ok.br {R : RS} (h : R.ok) : (readBrM R).2.ok := (h.num 2).bytes 6
theorem RS.ok.pt {R : RS} (h : R.ok) : (readPtM R).2.ok := by
  unfold readPtM
  simp only []
  split
  · exact (h.num 2).fail _ _
  · exact h.num 2
theorem readBr_left {R : RS} {b : Br} {rest : List UInt8} (hb : b.okB = true) (h : R.Left (b.bytes ++ rest)) : readBrM R = (b, (R.skip 2).skip 6) ∧ ((R.skip 2).skip 6).Left rest := by
  obtain ⟨h1, h2, h3, h4, h5⟩ := Br.ok_iff.1 hb
  have g0 : R.Left (beBytes (b.prio + b.ext).toNat 2 ++ (b.ad.list ++ rest)) := by simpa [Br.bytes, List.append_assoc] using h
  have g1 := g0.skip (beBytes_len _ 2)
  have g2 := g1.skip (Ad.len _)
  refine ⟨?_, g2⟩
  unfold readBrM
  rw [numM_be g0 (by omega), bytesM_left g1 (Ad.len _), Ad.of_list]
  cases b
  simp only [Prod.mk.injEq, Br.mk.injEq, and_true, true_and] at *
  omega
theorem readPt_left {R : RS} {p : Pt} {rest : List UInt8} (hp : p.okB = true) (h : R.Left (p.bytes ++ rest)) : readPtM R = (p, R.skip 2) ∧ (R.skip 2).Left rest := by
  obtain ⟨h1, h2, h3, h4, h5⟩ := Pt.ok_iff.1 hp
  have g0 : R.Left (beBytes (p.prio * 256 + p.no).toNat 2 ++ rest) := h
  have g1 := g0.skip (beBytes_len _ 2)
  refine ⟨?_, g1⟩
  unfold readPtM
  rw [numM_be g0 (by omega)]
  simp only []
  rw [if_neg (by omega)]
  cases p
  simp only [Prod.mk.injEq, Pt.mk.injEq, and_true, true_and] at *
  omega
/-- What was read without an error stood there, and may be. -/
theorem readBr_back {R : RS} (hok : R.ok) (h : (readBrM R).2.err = none) : ∃ rest, R.Left ((readBrM R).1.bytes ++ rest) ∧ (readBrM R).1.okB = true ∧ (readBrM R).2.Left rest := by
  have h0 : (bytesM (numM R 2).2 6).2.err = none := h
  have h1 : (numM R 2).2.err = none := bytesM_err h0
  obtain ⟨c, rest, a1, a2, a3, a4⟩ := numM_back hok h1
  rw [a3] at h0
  obtain ⟨d, rest', b1, b2, b3, b4⟩ := bytesM_back a4.ok h0
  have hr : rest = d ++ rest' := a4.left.symm.trans b2.left
  have hlt : beNum c < 65536 := by have := beNum_lt c; rw [a1] at this; omega
  have e : readBrM R = (⟨((beNum c / 4096 * 4096 : Nat) : Int), ((beNum c % 4096 : Nat) : Int), Ad.of d⟩, (R.skip 2).skip 6) := by
    unfold readBrM; rw [a3]; simp only []; rw [b3]
  rw [e]
  refine ⟨rest', ?_, ?_, b4⟩
  · have hc : beBytes (((beNum c / 4096 * 4096 : Nat) : Int) + ((beNum c % 4096 : Nat) : Int)).toNat 2 = c := by
      rw [show (((beNum c / 4096 * 4096 : Nat) : Int) + ((beNum c % 4096 : Nat) : Int)).toNat = beNum c by omega, ← a1]
      exact beBytes_beNum c
    unfold Br.bytes
    simp only []
    rw [hc, Ad.list_of b1, List.append_assoc, ← hr]
    exact a2
  · rw [Br.ok_iff]
    simp only []
    omega
theorem readPt_back {R : RS} (hok : R.ok) (h : (readPtM R).2.err = none) : ∃ rest, R.Left ((readPtM R).1.bytes ++ rest) ∧ (readPtM R).1.okB = true ∧ (readPtM R).2.Left rest := by
  unfold readPtM at h
  simp only [] at h
  split at h
  · exact (failM_back h).elim
  · rename_i hn
    obtain ⟨c, rest, a1, a2, a3, a4⟩ := numM_back hok h
    have hlt : beNum c < 65536 := by have := beNum_lt c; rw [a1] at this; omega
    rw [a3] at hn
    simp only [] at hn
    have hne : ¬ beNum c % 4096 = 0 := fun e => hn ⟨a4.none, e⟩
    have e : readPtM R = (⟨((beNum c / 4096 * 16 : Nat) : Int), ((beNum c % 4096 : Nat) : Int)⟩, R.skip 2) := by
      unfold readPtM; rw [a3]; simp only []; rw [if_neg hn]
    rw [e]
    refine ⟨rest, ?_, ?_, a4⟩
    · have hc : beBytes (((beNum c / 4096 * 16 : Nat) : Int) * 256 + ((beNum c % 4096 : Nat) : Int)).toNat 2 = c := by
        rw [show (((beNum c / 4096 * 16 : Nat) : Int) * 256 + ((beNum c % 4096 : Nat) : Int)).toNat = beNum c by omega, ← a1]
        exact beBytes_beNum c
      unfold Pt.bytes
      simp only []
      rw [hc]
      exact a2
    · rw [Pt.ok_iff]
      simp only []
      omega
/-! ### Flags -/
def bitN (b : Bool) : Nat := if b then 1 else 0
def Fl.okB (f : Fl) : Bool := decide (0 ≤ f.role) && decide (f.role ≤ 3)
def Fl.byte (f : Fl) : Nat := bitN f.change + 2 * bitN f.proposal + 4 * f.role.toNat + 16 * bitN f.learn + 32 * bitN f.pass + 64 * bitN f.agree + 128 * bitN f.ack
def Fl.of (n : Nat) : Fl := ⟨decide (n % 2 = 1), decide (n / 2 % 2 = 1), ((n / 4 % 4 : Nat) : Int), decide (n / 16 % 2 = 1), decide (n / 32 % 2 = 1), decide (n / 64 % 2 = 1), decide (n / 128 % 2 = 1)⟩
theorem bitN_lt (b : Bool) : bitN b ≤ 1 := by cases b <;> decide
theorem bitN_dec (b : Bool) : decide (bitN b = 1) = b := by cases b <;> rfl
theorem bitN_of (n : Nat) : bitN (decide (n % 2 = 1)) = n % 2 := by
  unfold bitN
  by_cases h : n % 2 = 1
  · simp [h]
  · simp [h]; omega
theorem Fl.byte_lt (f : Fl) (h : f.okB = true) : f.byte < 256 := by
  simp only [Fl.okB, Bool.and_eq_true, decide_eq_true_eq] at h
  have := bitN_lt f.change; have := bitN_lt f.proposal; have := bitN_lt f.learn; have := bitN_lt f.pass; have := bitN_lt f.agree; have := bitN_lt f.ack
  unfold Fl.byte; omega
theorem Fl.of_byte (f : Fl) (h : f.okB = true) : Fl.of f.byte = f := by
  simp only [Fl.okB, Bool.and_eq_true, decide_eq_true_eq] at h
  obtain ⟨c, p, r, l, s, g, a⟩ := f
  simp only [] at h
  have h1 := bitN_lt c; have h2 := bitN_lt p; have h3 := bitN_lt l; have h4 := bitN_lt s; have h5 := bitN_lt g; have h6 := bitN_lt a
  unfold Fl.of Fl.byte
  simp only []
  rw [show (bitN c + 2 * bitN p + 4 * r.toNat + 16 * bitN l + 32 * bitN s + 64 * bitN g + 128 * bitN a) % 2 = bitN c by omega,
    show (bitN c + 2 * bitN p + 4 * r.toNat + 16 * bitN l + 32 * bitN s + 64 * bitN g + 128 * bitN a) / 2 % 2 = bitN p by omega,
    show (bitN c + 2 * bitN p + 4 * r.toNat + 16 * bitN l + 32 * bitN s + 64 * bitN g + 128 * bitN a) / 4 % 4 = r.toNat by omega,
    show (bitN c + 2 * bitN p + 4 * r.toNat + 16 * bitN l + 32 * bitN s + 64 * bitN g + 128 * bitN a) / 16 % 2 = bitN l by omega,
    show (bitN c + 2 * bitN p + 4 * r.toNat + 16 * bitN l + 32 * bitN s + 64 * bitN g + 128 * bitN a) / 32 % 2 = bitN s by omega,
    show (bitN c + 2 * bitN p + 4 * r.toNat + 16 * bitN l + 32 * bitN s + 64 * bitN g + 128 * bitN a) / 64 % 2 = bitN g by omega,
    show (bitN c + 2 * bitN p + 4 * r.toNat + 16 * bitN l + 32 * bitN s + 64 * bitN g + 128 * bitN a) / 128 % 2 = bitN a by omega]
  simp only [bitN_dec, show ((r.toNat : Nat) : Int) = r by omega]
theorem Fl.byte_of (n : Nat) (h : n < 256) : (Fl.of n).byte = n := by
  unfold Fl.byte Fl.of
  simp only [bitN_of, Int.toNat_natCast]
  omega
theorem Fl.of_ok (n : Nat) : (Fl.of n).okB = true := by
  have h : (Fl.of n).role = ((n / 4 % 4 : Nat) : Int) := rfl
  have h1 : (0 : Int) ≤ ((n / 4 % 4 : Nat) : Int) := Int.natCast_nonneg _
  have h2 : ((n / 4 % 4 : Nat) : Int) ≤ 3 := by omega
  unfold Fl.okB
  rw [h, Bool.and_eq_true]
  exact ⟨decide_eq_true h1, decide_eq_true h2⟩
end Go.Proofs.YteibhcocldihbaaDoor
namespace Go.Proofs.YteibhcocldihbaaDoor
structure Bp where
  kind : Int
  fl : Fl
  root : Br
  cost : Int
  sender : Br
  port : Pt
  age : Int
  max : Int
  hello : Int
  wait : Int
deriving DecidableEq, Inhabited
def Ad.zero : Ad := ⟨0, 0, 0, 0, 0, 0⟩
def Br.zero : Br := ⟨0, 0, Ad.zero⟩
def Pt.zero : Pt := ⟨0, 0⟩
def Fl.zero : Fl := ⟨false, false, 0, false, false, false, false⟩
def Bp.zero : Bp := ⟨0, Fl.zero, Br.zero, 0, Br.zero, Pt.zero, 0, 0, 0, 0⟩
def Bp.notice : Bp := { Bp.zero with kind := 2 }
/-- Only Change and Ack. -/
def Fl.two (f : Fl) : Fl := ⟨f.change, false, 0, false, false, false, f.ack⟩
def tm (n : Int) : Bool := decide (0 ≤ n) && decide (n ≤ 65535)
def Bp.restB (b : Bp) : Bool := b.root.okB && (b.sender.okB && (b.port.okB && (decide (0 ≤ b.cost) && (decide (b.cost < 4294967296) && (tm b.age && (tm b.max && (tm b.hello && tm b.wait)))))))
def Bp.okB (b : Bp) : Bool := if b.kind = 2 then decide (b = Bp.notice) else if b.kind = 1 then decide (b.fl = b.fl.two) && b.restB else if b.kind = 3 then b.fl.okB && b.restB else false
structure Bp.Rest (b : Bp) : Prop where
  root : b.root.okB = true
  sender : b.sender.okB = true
  port : b.port.okB = true
  cost0 : 0 ≤ b.cost
  cost1 : b.cost < 4294967296
  age0 : 0 ≤ b.age
  age1 : b.age ≤ 65535
  max0 : 0 ≤ b.max
  max1 : b.max ≤ 65535
  hello0 : 0 ≤ b.hello
  hello1 : b.hello ≤ 65535
  wait0 : 0 ≤ b.wait
  wait1 : b.wait ≤ 65535
theorem Bp.rest_iff {b : Bp} : b.restB = true ↔ b.Rest := by
  constructor
  · intro h
    simp only [Bp.restB, tm, Bool.and_eq_true, decide_eq_true_eq] at h
    obtain ⟨a1, a2, a3, a4, a5, ⟨a6, a7⟩, ⟨a8, a9⟩, ⟨a10, a11⟩, a12, a13⟩ := h
    exact ⟨a1, a2, a3, a4, a5, a6, a7, a8, a9, a10, a11, a12, a13⟩
  · rintro ⟨a1, a2, a3, a4, a5, a6, a7, a8, a9, a10, a11, a12, a13⟩
    simp only [Bp.restB, tm, Bool.and_eq_true, decide_eq_true_eq]
    exact ⟨a1, a2, a3, a4, a5, ⟨a6, a7⟩, ⟨a8, a9⟩, ⟨a10, a11⟩, a12, a13⟩
/-- What stands behind the head. -/
def Bp.body (b : Bp) : List UInt8 := beBytes b.fl.byte 1 ++ b.root.bytes ++ beBytes b.cost.toNat 4 ++ b.sender.bytes ++ b.port.bytes ++ beBytes b.age.toNat 2 ++ beBytes b.max.toNat 2 ++ beBytes b.hello.toNat 2 ++ beBytes b.wait.toNat 2
theorem Bp.body_len (b : Bp) : b.body.length = 31 := by simp [Bp.body, beBytes_len, Br.bytes_len, Pt.bytes_len]
def headB (kind : Int) : List UInt8 := if kind = 1 then [0, 0, 0, 0] else if kind = 2 then [0, 0, 0, 128] else [0, 0, 2, 2]
theorem headB_len (kind : Int) : (headB kind).length = 4 := by
  unfold headB
  split
  · rfl
  · split <;> rfl
def Bp.bytes (b : Bp) : List UInt8 := if b.kind = 2 then headB 2 else if b.kind = 1 then headB 1 ++ b.body else headB 3 ++ b.body ++ [0]
def readBodyM (R : RS) (kind : Int) : Bp × RS :=
  let f := numM R 1
  let a := readBrM f.2
  let c := numM a.2 4
  let s := readBrM c.2
  let p := readPtM s.2
  let n1 := numM p.2 2
  let n2 := numM n1.2 2
  let n3 := numM n2.2 2
  let n4 := numM n3.2 2
  (⟨kind, Fl.of f.1, a.1, c.1, s.1, p.1, n1.1, n2.1, n3.1, n4.1⟩, n4.2)
theorem RS.ok.body {R : RS} (h : R.ok) (kind : Int) : (readBodyM R kind).2.ok := ((((((((h.num 1).br).num 4).br).pt).num 2).num 2).num 2).num 2
/-- Which kind a head is of; 0: of none. -/
def kindM (h : List UInt8 × RS) : Int := if h.2.err = none then (if h.1 = [0, 0, 0, 0] then 1 else if h.1 = [0, 0, 0, 128] then 2 else if h.1 = [0, 0, 2, 2] then 3 else 0) else 0
/-- What is read, ahead of the last look at the error. -/
def readBpM (s : List UInt8) : Bp × RS :=
  let h := bytesM (newM s 0) 4
  let k := kindM h
  if k = 1 then ({ (readBodyM h.2 1).1 with fl := (readBodyM h.2 1).1.fl.two }, (readBodyM h.2 1).2)
  else if k = 3 then
    let b := readBodyM h.2 3
    let n := numM b.2 1
    (b.1, if n.1 ≠ 0 then failM n.2 3 (b.2.place : Int) else n.2)
  else if k = 0 then (Bp.zero, failM h.2 3 0)
  else (Bp.notice, h.2)
theorem readBody_left {R : RS} {b : Bp} {rest : List UInt8} (hb : b.Rest) (hf : b.fl.okB = true) (kind : Int) (h : R.Left (b.body ++ rest)) : ∃ R', readBodyM R kind = ({ b with kind := kind }, R') ∧ R'.Left rest := by
  have g0 : R.Left (beBytes b.fl.byte 1 ++ (b.root.bytes ++ (beBytes b.cost.toNat 4 ++ (b.sender.bytes ++ (b.port.bytes ++ (beBytes b.age.toNat 2 ++ (beBytes b.max.toNat 2 ++ (beBytes b.hello.toNat 2 ++ (beBytes b.wait.toNat 2 ++ rest))))))))) := by
    simpa [Bp.body, List.append_assoc] using h
  have g1 := g0.skip (beBytes_len _ 1)
  obtain ⟨e1, g2⟩ := readBr_left hb.root g1
  have g3 := g2.skip (beBytes_len _ 4)
  obtain ⟨e3, g4⟩ := readBr_left hb.sender g3
  obtain ⟨e4, g5⟩ := readPt_left hb.port g4
  have g6 := g5.skip (beBytes_len _ 2)
  have g7 := g6.skip (beBytes_len _ 2)
  have g8 := g7.skip (beBytes_len _ 2)
  have g9 := g8.skip (beBytes_len _ 2)
  have := Fl.byte_lt _ hf
  obtain ⟨_, _, _, a4, a5, a6, a7, a8, a9, a10, a11, a12, a13⟩ := hb
  refine ⟨_, ?_, g9⟩
  unfold readBodyM
  simp only [numM_be g0 (show b.fl.byte < 256 ^ 1 by omega), e1, numM_be g2 (show b.cost.toNat < 256 ^ 4 by omega), e3, e4, numM_be g5 (show b.age.toNat < 256 ^ 2 by omega), numM_be g6 (show b.max.toNat < 256 ^ 2 by omega), numM_be g7 (show b.hello.toNat < 256 ^ 2 by omega), numM_be g8 (show b.wait.toNat < 256 ^ 2 by omega), Fl.of_byte _ hf]
  cases b
  simp only [Prod.mk.injEq, Bp.mk.injEq, and_true, true_and] at *
  omega
theorem Fl.two_ok (f : Fl) : f.two.okB = true := by simp [Fl.okB, Fl.two]
theorem Fl.two_two (f : Fl) : f.two.two = f.two := rfl
/-- What is written is read, whatever stands behind it. -/
theorem readBp_bytes (b : Bp) (more : List UInt8) (hb : b.okB = true) (hm : (b.bytes ++ more).length ≤ 4611686018427387904) : ∃ R, readBpM (b.bytes ++ more) = (b, R) ∧ R.err = none := by
  have g0 := newM_left (b.bytes ++ more) 0 (by omega)
  unfold Bp.okB at hb
  split at hb
  · rename_i hk
    have hb : b = Bp.notice := by simpa using hb
    subst hb
    have e : Bp.notice.bytes = headB 2 := rfl
    rw [e] at g0 ⊢
    have h1 := bytesM_left g0 (headB_len 2)
    have g1 := g0.skip (headB_len 2)
    refine ⟨_, ?_, g1.none⟩
    unfold readBpM
    simp only [h1]
    have hkm : kindM (headB 2, (newM (headB 2 ++ more) 0).skip 4) = 2 := by unfold kindM; rw [if_pos g1.none]; rfl
    rw [hkm]
    simp
  · rename_i hk2
    split at hb
    · rename_i hk
      simp only [Bool.and_eq_true, decide_eq_true_eq] at hb
      obtain ⟨hf, hr⟩ := hb
      have e : b.bytes = headB 1 ++ b.body := by unfold Bp.bytes; rw [if_neg hk2, if_pos hk]
      rw [e] at g0 ⊢
      rw [List.append_assoc] at g0 ⊢
      have h1 := bytesM_left g0 (headB_len 1)
      have g1 := g0.skip (headB_len 1)
      obtain ⟨R', h2, g2⟩ := readBody_left (Bp.rest_iff.1 hr) (by rw [hf]; exact Fl.two_ok _) 1 g1
      refine ⟨R', ?_, g2.none⟩
      unfold readBpM
      simp only [h1]
      have hkm : kindM (headB 1, (newM (headB 1 ++ (b.body ++ more)) 0).skip 4) = 1 := by unfold kindM; rw [if_pos g1.none]; rfl
      rw [hkm]
      simp only [if_true, h2]
      rw [← hf, ← hk]
    · rename_i hk1
      split at hb
      · rename_i hk
        simp only [Bool.and_eq_true] at hb
        obtain ⟨hf, hr⟩ := hb
        have e : b.bytes ++ more = headB 3 ++ (b.body ++ ([0] ++ more)) := by unfold Bp.bytes; rw [if_neg hk2, if_neg hk1]; simp [List.append_assoc]
        rw [e] at g0 ⊢
        have h1 := bytesM_left g0 (headB_len 3)
        have g1 := g0.skip (headB_len 3)
        obtain ⟨R', h2, g2⟩ := readBody_left (Bp.rest_iff.1 hr) hf 3 g1
        have h3 : numM R' 1 = (0, R'.skip 1) := numM_left g2 rfl
        have g3 := g2.skip (n := 1) rfl
        refine ⟨R'.skip 1, ?_, g3.none⟩
        unfold readBpM
        simp only [h1]
        have hkm : kindM (headB 3, (newM (headB 3 ++ (b.body ++ ([0] ++ more))) 0).skip 4) = 3 := by unfold kindM; rw [if_pos g1.none]; rfl
        rw [hkm, if_neg (by decide), if_pos rfl]
        simp only [h2, h3]
        rw [← hk]
        simp
      · cases hb
theorem num_tm {R : RS} {c : List UInt8} (hc : c.length = 2) : (beNum c : Int) ≤ 65535 ∧ (0 : Int) ≤ beNum c ∧ beBytes ((beNum c : Int)).toNat 2 = c := by
  have := beNum_lt c
  rw [hc] at this
  refine ⟨by omega, by omega, ?_⟩
  rw [Int.toNat_natCast, ← hc]
  exact beBytes_beNum c
theorem readBody_back {R : RS} (kind : Int) (hok : R.ok) (h : (readBodyM R kind).2.err = none) : ∃ rest, R.Left ((readBodyM R kind).1.body ++ rest) ∧ (readBodyM R kind).1.Rest ∧ (readBodyM R kind).1.fl.okB = true ∧ (readBodyM R kind).1.kind = kind ∧ (readBodyM R kind).2.Left rest := by
  have o1 := hok.num 1
  have o2 := o1.br
  have o3 := o2.num 4
  have o4 := o3.br
  have o5 := o4.pt
  have o6 := o5.num 2
  have o7 := o6.num 2
  have o8 := o7.num 2
  have hb : ∀ {R : RS} {n : Nat}, (numM R n).2.err = none → R.err = none := fun h => bytesM_err h
  have hbr : ∀ {R : RS}, (readBrM R).2.err = none → R.err = none := fun h => hb (bytesM_err h)
  have hpt : ∀ {R : RS}, (readPtM R).2.err = none → R.err = none := fun {R} h => by
    unfold readPtM at h
    simp only [] at h
    split at h
    · exact (failM_back h).elim
    · exact hb h
  have h9 : (numM (numM (numM (numM (readPtM (readBrM (numM (readBrM (numM R 1).2).2 4).2).2).2 2).2 2).2 2).2 2).2.err = none := h
  have h8 := hb h9
  have h7 := hb h8
  have h6 := hb h7
  have h5 := hb h6
  have h4 := hpt h5
  have h3 := hbr h4
  have h2 := hb h3
  have h1 := hbr h2
  obtain ⟨c1, r1, l1, L1, e1, G1⟩ := numM_back hok h1
  obtain ⟨r2, L2, k2, G2⟩ := readBr_back o1 h2
  obtain ⟨c3, r3, l3, L3, e3, G3⟩ := numM_back o2 h3
  obtain ⟨r4, L4, k4, G4⟩ := readBr_back o3 h4
  obtain ⟨r5, L5, k5, G5⟩ := readPt_back o4 h5
  obtain ⟨c6, r6, l6, L6, e6, G6⟩ := numM_back o5 h6
  obtain ⟨c7, r7, l7, L7, e7, G7⟩ := numM_back o6 h7
  obtain ⟨c8, r8, l8, L8, e8, G8⟩ := numM_back o7 h8
  obtain ⟨c9, r9, l9, L9, e9, G9⟩ := numM_back o8 h9
  have f1 : (numM R 1).1 = beNum c1 := by rw [e1]
  have f3 : (numM (readBrM (numM R 1).2).2 4).1 = beNum c3 := by rw [e3]
  have f6 : (numM (readPtM (readBrM (numM (readBrM (numM R 1).2).2 4).2).2).2 2).1 = beNum c6 := by rw [e6]
  have f7 : (numM (numM (readPtM (readBrM (numM (readBrM (numM R 1).2).2 4).2).2).2 2).2 2).1 = beNum c7 := by rw [e7]
  have f8 : (numM (numM (numM (readPtM (readBrM (numM (readBrM (numM R 1).2).2 4).2).2).2 2).2 2).2 2).1 = beNum c8 := by rw [e8]
  have f9 : (numM (numM (numM (numM (readPtM (readBrM (numM (readBrM (numM R 1).2).2 4).2).2).2 2).2 2).2 2).2 2).1 = beNum c9 := by rw [e9]
  have G1' : (numM R 1).2.Left r1 := by rw [e1]; exact G1
  have G3' : (numM (readBrM (numM R 1).2).2 4).2.Left r3 := by rw [e3]; exact G3
  have G6' : (numM (readPtM (readBrM (numM (readBrM (numM R 1).2).2 4).2).2).2 2).2.Left r6 := by rw [e6]; exact G6
  have G7' : (numM (numM (readPtM (readBrM (numM (readBrM (numM R 1).2).2 4).2).2).2 2).2 2).2.Left r7 := by rw [e7]; exact G7
  have G8' : (numM (numM (numM (readPtM (readBrM (numM (readBrM (numM R 1).2).2 4).2).2).2 2).2 2).2 2).2.Left r8 := by rw [e8]; exact G8
  have G9' : (numM (numM (numM (numM (readPtM (readBrM (numM (readBrM (numM R 1).2).2 4).2).2).2 2).2 2).2 2).2 2).2.Left r9 := by rw [e9]; exact G9
  have q1 : r1 = _ := G1'.left.symm.trans L2.left
  have q2 : r2 = c3 ++ r3 := G2.left.symm.trans L3.left
  have q3 : r3 = _ := G3'.left.symm.trans L4.left
  have q4 : r4 = _ := G4.left.symm.trans L5.left
  have q5 : r5 = c6 ++ r6 := G5.left.symm.trans L6.left
  have q6 : r6 = c7 ++ r7 := G6'.left.symm.trans L7.left
  have q7 : r7 = c8 ++ r8 := G7'.left.symm.trans L8.left
  have q8 : r8 = c9 ++ r9 := G8'.left.symm.trans L9.left
  obtain ⟨t6, u6, v6⟩ := num_tm (R := R) l6
  obtain ⟨t7, u7, v7⟩ := num_tm (R := R) l7
  obtain ⟨t8, u8, v8⟩ := num_tm (R := R) l8
  obtain ⟨t9, u9, v9⟩ := num_tm (R := R) l9
  have hc1 : beBytes (Fl.of (beNum c1)).byte 1 = c1 := by
    have hlt := beNum_lt c1
    rw [l1] at hlt
    rw [Fl.byte_of _ (by omega), ← l1]
    exact beBytes_beNum c1
  have hlt3 := beNum_lt c3
  rw [l3] at hlt3
  have hc3 : beBytes ((beNum c3 : Int)).toNat 4 = c3 := by
    rw [Int.toNat_natCast, ← l3]
    exact beBytes_beNum c3
  refine ⟨r9, ?_, ⟨k2, k4, k5, ?_, ?_, ?_, ?_, ?_, ?_, ?_, ?_, ?_, ?_⟩, Fl.of_ok _, rfl, G9'⟩
  · have e : (readBodyM R kind).1.body ++ r9 = c1 ++ r1 := by
      rw [q1, q2, q3, q4, q5, q6, q7, q8]
      unfold Bp.body readBodyM
      simp only [f1, f3, f6, f7, f8, f9, hc1, hc3, v6, v7, v8, v9, List.append_assoc]
    rw [e]; exact L1
  all_goals
    unfold readBodyM
    simp only [f3, f6, f7, f8, f9]
    omega
end Go.Proofs.YteibhcocldihbaaDoor
namespace Go.Proofs.YteibhcocldihbaaDoor
/-- What is left is the beginning of l, not the whole of it; or the text has run out. -/
def Cut (R : RS) (l : List UInt8) : Prop := (∃ r, R.Left r ∧ r.length < l.length ∧ ∃ m, l = r ++ m) ∨ ∃ p, R.err = some (7, p)
theorem Cut.nil {R : RS} (h : Cut R []) : ∃ p, R.err = some (7, p) := by
  rcases h with ⟨r, _, h, _⟩ | h
  · simp at h
  · exact h
theorem Cut.had {R : RS} {l : List UInt8} {p : Int} (h : R.err = some (7, p)) : Cut R l := .inr ⟨p, h⟩
theorem Cut.new (t : List UInt8) (k off : Nat) (hk : k < t.length) (hl : off + t.length ≤ 4611686018427387904) : Cut (newM (t.take k) off) t :=
  .inl ⟨t.take k, newM_left _ _ (by rw [List.length_take]; omega), by rw [List.length_take]; omega, t.drop k, (List.take_append_drop k t).symm⟩
theorem Cut.bytes {R : RS} {c rest : List UInt8} (h : Cut R (c ++ rest)) {n : Nat} (hn : c.length = n) : Cut (bytesM R n).2 rest ∧ ((bytesM R n).2.err = none → (bytesM R n).1 = c) := by
  subst hn
  rcases h with ⟨r, hL, hl, m, hm⟩ | ⟨p, hp⟩
  · by_cases hle : c.length ≤ r.length
    · have h1 : r.take c.length = c := by
        have := congrArg (List.take c.length) hm
        rw [List.take_left' rfl, List.take_append_of_le_length hle] at this
        exact this.symm
      have h2 : rest = r.drop c.length ++ m := by
        have := congrArg (List.drop c.length) hm
        rw [List.drop_left' rfl, List.drop_append_of_le_length hle] at this
        exact this
      have hL' : R.Left (c ++ r.drop c.length) := by
        have := List.take_append_drop c.length r
        rw [h1] at this
        rw [this]; exact hL
      have e := bytesM_left hL' rfl
      rw [e]
      refine ⟨.inl ⟨_, hL'.skip rfl, ?_, m, h2⟩, fun _ => rfl⟩
      rw [List.length_append] at hl
      rw [List.length_drop]; omega
    · have hlen := hL.len
      have e := bytesM_no hL.none (n := c.length) (by omega)
      rw [e]
      exact ⟨.inr ⟨_, rfl⟩, fun h => by cases h⟩
  · rw [bytesM_had hp]
    exact ⟨.inr ⟨p, hp⟩, fun h => by rw [hp] at h; cases h⟩
theorem Cut.num {R : RS} {c rest : List UInt8} (h : Cut R (c ++ rest)) {n : Nat} (hn : c.length = n) : Cut (numM R n).2 rest ∧ ((numM R n).2.err = none → (numM R n).1 = beNum c) := by
  obtain ⟨h1, h2⟩ := h.bytes hn
  exact ⟨h1, fun e => by unfold numM; rw [h2 e]⟩
theorem Cut.fail {R : RS} {l : List UInt8} (h : Cut R l) (hne : R.err ≠ none) (e p : Int) : Cut (failM R e p) l := by
  rcases h with ⟨r, hL, _⟩ | ⟨q, hq⟩
  · exact absurd hL.none hne
  · rw [failM_had hq]; exact .inr ⟨q, hq⟩
end Go.Proofs.YteibhcocldihbaaDoor
namespace Go.Proofs.YteibhcocldihbaaDoor
theorem Cut.br {R : RS} {b : Br} {rest : List UInt8} (h : Cut R (b.bytes ++ rest)) : Cut (readBrM R).2 rest := by
  have g0 : Cut R (beBytes (b.prio + b.ext).toNat 2 ++ (b.ad.list ++ rest)) := by simpa [Br.bytes, List.append_assoc] using h
  exact ((g0.num (beBytes_len _ 2)).1.bytes (Ad.len _)).1
theorem Cut.pt {R : RS} {p : Pt} {rest : List UInt8} (hp : p.okB = true) (h : Cut R (p.bytes ++ rest)) : Cut (readPtM R).2 rest := by
  obtain ⟨h1, h2, h3, h4, h5⟩ := Pt.ok_iff.1 hp
  have g0 : Cut R (beBytes (p.prio * 256 + p.no).toNat 2 ++ rest) := h
  obtain ⟨g1, g2⟩ := g0.num (beBytes_len _ 2)
  unfold readPtM
  simp only []
  split
  · rename_i hc
    have := g2 hc.1
    rw [this, beNum_beBytes 2 _ (by omega)] at hc
    omega
  · exact g1
theorem Cut.body {R : RS} {b : Bp} {rest : List UInt8} (hb : b.Rest) (kind : Int) (h : Cut R (b.body ++ rest)) : Cut (readBodyM R kind).2 rest := by
  have g0 : Cut R (beBytes b.fl.byte 1 ++ (b.root.bytes ++ (beBytes b.cost.toNat 4 ++ (b.sender.bytes ++ (b.port.bytes ++ (beBytes b.age.toNat 2 ++ (beBytes b.max.toNat 2 ++ (beBytes b.hello.toNat 2 ++ (beBytes b.wait.toNat 2 ++ rest))))))))) := by
    simpa [Bp.body, List.append_assoc] using h
  exact (((((((((g0.num (beBytes_len _ 1)).1.br).num (beBytes_len _ 4)).1.br).pt hb.port).num (beBytes_len _ 2)).1.num (beBytes_len _ 2)).1.num (beBytes_len _ 2)).1.num (beBytes_len _ 2)).1
theorem kindM_err {h : List UInt8 × RS} (he : h.2.err ≠ none) : kindM h = 0 := by unfold kindM; rw [if_neg he]
theorem kindM_head {h : List UInt8 × RS} (he : h.2.err = none) (k : Int) (hk : k = 1 ∨ k = 2 ∨ k = 3) (h1 : h.1 = headB k) : kindM h = k := by
  unfold kindM
  rw [if_pos he, h1]
  rcases hk with rfl | rfl | rfl <;> rfl
/-- No shorter beginning is read. -/
theorem readBp_cut (b : Bp) (hb : b.okB = true) (k : Nat) (hk : k < b.bytes.length) : ∃ p, (readBpM (b.bytes.take k)).2.err = some (7, p) := by
  have key : ∀ (kind : Int) (l : List UInt8), b.bytes = headB kind ++ l → kind = 1 ∨ kind = 2 ∨ kind = 3 → (∀ R, R.err = none → Cut R l → bytesM (newM (b.bytes.take k) 0) 4 = (headB kind, R) → ∃ p, (readBpM (b.bytes.take k)).2.err = some (7, p)) → ∃ p, (readBpM (b.bytes.take k)).2.err = some (7, p) := by
    intro kind l hl hkd hc
    have hlen : l.length ≤ 32 → b.bytes.length ≤ 36 := by intro h; rw [hl, List.length_append, headB_len]; omega
    have g0 : Cut (newM (b.bytes.take k) 0) (headB kind ++ l) := by
      rw [← hl]
      refine Cut.new _ k 0 hk ?_
      unfold Bp.bytes
      split
      · rw [headB_len]; omega
      · split <;> simp only [List.length_append, headB_len, Bp.body_len, List.length_cons, List.length_nil] <;> omega
    obtain ⟨g1, g2⟩ := g0.bytes (headB_len kind)
    by_cases he : (bytesM (newM (b.bytes.take k) 0) 4).2.err = none
    · exact hc _ he g1 (by rw [← g2 he])
    · rcases g1 with ⟨r, hL, _⟩ | ⟨p, hp⟩
      · exact absurd hL.none he
      · refine ⟨p, ?_⟩
        unfold readBpM
        simp only [kindM_err he]
        rw [if_neg (by decide), if_neg (by decide), if_pos trivial, failM_had hp]
        exact hp
  unfold Bp.okB at hb
  split at hb
  · rename_i h2
    refine key 2 [] (by unfold Bp.bytes; rw [if_pos h2, List.append_nil]) (by simp) (fun R he hc _ => ?_)
    obtain ⟨p, hp⟩ := hc.nil
    rw [he] at hp; cases hp
  · rename_i h2
    split at hb
    · rename_i h1
      simp only [Bool.and_eq_true, decide_eq_true_eq] at hb
      refine key 1 (b.body ++ []) (by unfold Bp.bytes; rw [if_neg h2, if_pos h1, List.append_nil]) (by simp) (fun R he hc e => ?_)
      obtain ⟨p, hp⟩ := (Cut.body (Bp.rest_iff.1 hb.2) 1 hc).nil
      refine ⟨p, ?_⟩
      unfold readBpM
      simp only [e, kindM_head (h := (headB 1, R)) he 1 (by simp) rfl]
      rw [if_pos trivial]
      exact hp
    · rename_i h1
      split at hb
      · rename_i h3
        simp only [Bool.and_eq_true] at hb
        refine key 3 (b.body ++ ([0] ++ [])) (by unfold Bp.bytes; rw [if_neg h2, if_neg h1]; simp) (by simp) (fun R he hc e => ?_)
        have hc2 := Cut.body (Bp.rest_iff.1 hb.2) 3 hc
        obtain ⟨hc3, hc4⟩ := hc2.num (n := 1) rfl
        obtain ⟨p, hp⟩ := hc3.nil
        refine ⟨p, ?_⟩
        unfold readBpM
        simp only [e, kindM_head (h := (headB 3, R)) he 3 (by simp) rfl]
        rw [if_neg (by decide), if_pos trivial]
        split
        · rw [failM_had hp]; exact hp
        · exact hp
      · cases hb
/-- What is read is right, and no longer than the text. -/
theorem readBp_back (s : List UInt8) (hs : s.length ≤ 4611686018427387904) (h : (readBpM s).2.err = none) : (readBpM s).1.okB = true ∧ (readBpM s).1.bytes.length ≤ s.length := by
  have hok : (newM s 0).ok := ⟨Nat.zero_le _, by show 0 + s.length ≤ _; omega⟩
  have e4 : ∀ R : RS, R = (bytesM (newM s 0) 4).2 → R.err = none → kindM (bytesM (newM s 0) 4) ≠ 0 → ∃ k rest, (k = 1 ∨ k = 2 ∨ k = 3) ∧ kindM (bytesM (newM s 0) 4) = k ∧ s = headB k ++ rest ∧ R.Left rest ∧ R.ok := by
    intro R hR he hk
    rw [hR] at he
    obtain ⟨c, rest, l1, L1, b1, G1⟩ := bytesM_back hok he
    have hR' : R = (newM s 0).skip 4 := by rw [hR, b1]
    have hs' : s = c ++ rest := L1.left
    have hkm : kindM (bytesM (newM s 0) 4) = if c = [0, 0, 0, 0] then 1 else if c = [0, 0, 0, 128] then 2 else if c = [0, 0, 2, 2] then 3 else 0 := by
      unfold kindM
      rw [if_pos he, b1]
    rw [hkm] at hk ⊢
    rw [hR']
    split at hk
    · rename_i hc; exact ⟨1, rest, by simp, if_pos hc, by rw [hs', hc]; rfl, G1, G1.ok⟩
    · rename_i hc
      rw [if_neg hc]
      split at hk
      · rename_i hc2; exact ⟨2, rest, by simp, if_pos hc2, by rw [hs', hc2]; rfl, G1, G1.ok⟩
      · rename_i hc2
        rw [if_neg hc2]
        split at hk
        · rename_i hc3; exact ⟨3, rest, by simp, if_pos hc3, by rw [hs', hc3]; rfl, G1, G1.ok⟩
        · exact absurd rfl hk
  generalize hB : bytesM (newM s 0) 4 = Bq at *
  have hk0 : kindM Bq ≠ 0 := by
    intro h0
    unfold readBpM at h
    simp only [hB, h0] at h
    rw [if_neg (by decide), if_neg (by decide), if_pos trivial] at h
    exact failM_back h
  have he : Bq.2.err = none := by
    by_cases he : Bq.2.err = none
    · exact he
    · exact absurd (kindM_err he) hk0
  obtain ⟨k, rest, hk, hkm, hs', L, okR⟩ := e4 Bq.2 rfl he hk0
  clear e4
  rcases hk with rfl | rfl | rfl
  · have e : readBpM s = ({ (readBodyM Bq.2 1).1 with fl := (readBodyM Bq.2 1).1.fl.two }, (readBodyM Bq.2 1).2) := by
      unfold readBpM; simp only [hB, hkm]; rw [if_pos trivial]
    rw [e] at h ⊢
    obtain ⟨r2, L2, hr, hf, hkd, L3⟩ := readBody_back 1 okR h
    have q2 : rest = _ := L.left.symm.trans L2.left
    generalize (readBodyM Bq.2 1).1 = x at *
    refine ⟨?_, ?_⟩
    · unfold Bp.okB
      rw [if_neg (by show ¬ x.kind = 2; omega), if_pos (show x.kind = 1 from hkd)]
      have : Bp.restB { x with fl := x.fl.two } = true := Bp.rest_iff.2 ⟨hr.root, hr.sender, hr.port, hr.cost0, hr.cost1, hr.age0, hr.age1, hr.max0, hr.max1, hr.hello0, hr.hello1, hr.wait0, hr.wait1⟩
      rw [this]
      simp [Fl.two]
    · unfold Bp.bytes
      rw [if_neg (by show ¬ x.kind = 2; omega), if_pos (show x.kind = 1 from hkd), hs', q2]
      simp only [List.length_append, headB_len, Bp.body_len]
      omega
  · have e : readBpM s = (Bp.notice, Bq.2) := by
      unfold readBpM; simp only [hB, hkm]; rw [if_neg (by decide), if_neg (by decide), if_neg (by decide)]
    rw [e]
    exact ⟨show Bp.notice.okB = true by decide, by rw [hs', List.length_append]; exact Nat.le_add_right _ _⟩
  · have e : readBpM s = ((readBodyM Bq.2 3).1, if (numM (readBodyM Bq.2 3).2 1).1 ≠ 0 then failM (numM (readBodyM Bq.2 3).2 1).2 3 ((readBodyM Bq.2 3).2.place : Int) else (numM (readBodyM Bq.2 3).2 1).2) := by
      unfold readBpM; simp only [hB, hkm]; rw [if_neg (by decide), if_pos trivial]
    rw [e] at h ⊢
    simp only [] at h ⊢
    split at h
    · exact (failM_back h).elim
    · rename_i hn
      have hn : (numM (readBodyM Bq.2 3).2 1).1 = 0 := by omega
      obtain ⟨c, r2, l2, L2, e2, L3⟩ := numM_back (okR.body 3) h
      obtain ⟨r3, L4, hr, hf, hkd, L5⟩ := readBody_back 3 okR L2.none
      have q1 : r3 = c ++ r2 := L5.left.symm.trans L2.left
      have q2 : rest = _ := L.left.symm.trans L4.left
      have hc : c = [0] := by
        match c, l2 with
        | [x], _ =>
          rw [e2] at hn
          have : x.toNat = 0 := by simpa [beNum] using hn
          rw [UInt8.toNat_inj.1 (show x.toNat = (0 : UInt8).toNat from this)]
      generalize (readBodyM Bq.2 3).1 = x at *
      refine ⟨?_, ?_⟩
      · unfold Bp.okB
        rw [if_neg (by omega), if_neg (by omega), if_pos hkd, hf, Bp.rest_iff.2 hr]; rfl
      · rw [hs', q2, q1, hc]
        unfold Bp.bytes
        rw [if_neg (by omega), if_neg (by omega)]
        simp only [List.length_append, headB_len, Bp.body_len, List.length_cons, List.length_nil]
        omega
end Go.Proofs.YteibhcocldihbaaDoor

/- Rows of one's own, worlds in which one block has been written: over any program. -/
import Derived.Test.YtjekdodboihfhaaDoorRows2
import Derived.Test.YtjekdodboihfhaaDoorTail1
import Derived.Test.YtjekdodboihfhaaDoorBuild1
set_option linter.all false
namespace Go.Proofs.YtjekdodboihfhaaDoor
open Go.RowKit
theorem laterc {w w1 : World} {b o B : Nat} {v : Value} (hc : w.cell? ⟨b, o, none⟩ = some v) (hb : Below B w w1) (hl : b < B) : w1.cell? ⟨b, o, none⟩ = some v :=
  (hb.cell (p := ⟨b, o, none⟩) hl).trans hc
theorem own_below {w W : World} {base B : Nat} {e : TypeId} {size n : Nat} {v : Value} {xs : List Value} (h : w.ownsRow base e size v n xs) (hb : Below B w W) (hB : w.heap.size ≤ B) : W.ownsRow base e size v n xs := by
  refine ⟨h.1, ?_⟩
  rcases h.2 with h' | ⟨g, cap, cur, e1, e2, hh, r⟩
  · exact .inl h'
  · exact .inr ⟨g, cap, cur, e1, e2, (hb.block g (Nat.lt_of_lt_of_le (Array.getElem?_eq_some_iff.1 hh).1 hB)).trans hh, r⟩
theorem own_only {w W : World} {base b : Nat} {e : TypeId} {size n : Nat} {v : Value} {xs : List Value} (h : w.ownsRow base e size v n xs) (ho : Only b w W) (hne : v.ownBlock ≠ some b) : W.ownsRow base e size v n xs := by
  refine ⟨h.1, ?_⟩
  rcases h.2 with h' | ⟨g, cap, cur, e1, e2, hh, r⟩
  · exact .inl h'
  · refine .inr ⟨g, cap, cur, e1, e2, (ho.block g (fun eg => hne ?_)).trans hh, r⟩
    rw [e1, eg]; rfl
theorem own_only' {w W : World} {base b size n : Nat} {e : TypeId} {v : Value} {xs : List Value} (h : w.ownsRow base e size v n xs) (ho : Only b w W) (hb : b < base) : W.ownsRow base e size v n xs := by
  refine ⟨h.1, ?_⟩
  rcases h.2 with h' | ⟨g, cap, cur, e1, e2, e3, r⟩
  · exact .inl h'
  · exact .inr ⟨g, cap, cur, e1, e2, (ho.block g (by omega)).trans e3, r⟩
theorem own_base {w : World} {base B : Nat} {e : TypeId} {size n : Nat} {v : Value} {xs : List Value} (h : w.ownsRow base e size v n xs) (hB : B ≤ base) : w.ownsRow B e size v n xs := by
  refine ⟨h.1, ?_⟩
  rcases h.2 with h' | ⟨g, cap, cur, e1, e2, r⟩
  · exact .inl h'
  · exact .inr ⟨g, cap, cur, e1, Nat.le_trans hB e2, r⟩
theorem own_shape {w : World} {base : Nat} {e : TypeId} {size n : Nat} {v : Value} {xs : List Value} (h : w.ownsRow base e size v n xs) : ∃ A c, v = .slice A n c := by
  rcases h.2 with ⟨rfl, rfl⟩ | ⟨g, cap, cur, rfl, _⟩
  · exact ⟨none, 0, rfl⟩
  · exact ⟨_, cap, rfl⟩
theorem own_cells {w : World} {base : Nat} {e : TypeId} {size n : Nat} {v : Value} {xs : List Value} (h : w.ownsRow base e size v n xs) (hn : 0 < n) :
    ∃ g c, v = .slice (some ⟨g, 0, none⟩) n c ∧ n ≤ c ∧ base ≤ g ∧ g < w.heap.size ∧ ∀ k, k < n * size → w.cell? ⟨g, k, none⟩ = xs[k]? := by
  rcases h.2 with ⟨_, h0⟩ | ⟨g, cap, cur, e1, e2, e3, e4, _, _, e7⟩
  · omega
  · have hB : Blk w g e cur.toList := by unfold Blk; simpa using e3
    refine ⟨g, cap, e1, e4, e2, hB.lt, fun k hk => ?_⟩
    rw [hB.box.cell k, List.getElem?_toArray, ← e7, List.getElem?_take, if_pos hk]
theorem own_lt {w : World} {base size n : Nat} {e : TypeId} {g cap : Nat} {xs : List Value} (h : w.ownsRow base e size (.slice (some ⟨g, 0, none⟩) n cap) n xs) : base ≤ g ∧ g < w.heap.size := by
  rcases h.2 with ⟨h', _⟩ | ⟨g', cap', cur, e1, e2, e3, _⟩
  · cases h'
  · injection e1 with e1
    injection e1 with e1
    injection e1 with e1
    subst e1
    exact ⟨e2, (Array.getElem?_eq_some_iff.1 e3).1⟩
theorem own_frozen {w : World} {base size n : Nat} {e : TypeId} {g cap : Nat} {xs : List Value} (h : w.ownsRow base e size (.slice (some ⟨g, 0, none⟩) n cap) n xs) (o : Nat) : w.frozen? ⟨g, o, none⟩ = false := by
  rcases h.2 with ⟨h', _⟩ | ⟨g', cap', cur, e1, e2, e3, _⟩
  · cases h'
  · injection e1 with e1
    injection e1 with e1
    injection e1 with e1
    subst e1
    simp [World.frozen?, e3]
/-- One cell of a row of one's own is stored. -/
theorem own_set1 {w : World} {base n cap g size : Nat} {e : TypeId} {xs : List Value} (h : w.ownsRow base e size (.slice (some ⟨g, 0, none⟩) n cap) n xs) {o : Nat} (ho : o < n * size) (x : Value) :
    ∃ L, Blk w g e L ∧ o < L.length ∧ ∀ W, Blk W g e (L.take o ++ ([x] ++ L.drop (o + [x].length))) → W.ownsRow base e size (.slice (some ⟨g, 0, none⟩) n cap) n (xs.set o x) := by
  have hx : xs.length = n * size := h.1
  rcases h.2 with ⟨h0, _⟩ | ⟨g', cap', cur, e1, hb, hh, hc, hm, hs, ht⟩
  · cases h0
  · injection e1 with e1 e2 e3
    injection e1 with e1
    injection e1 with e1
    subst e1 e3
    have hlen : cur.toList.length = cap * size := by simpa using hs
    have hle : n * size ≤ cap * size := Nat.mul_le_mul_right _ hc
    have hoc : o < cur.toList.length := by omega
    have e : cur.toList.take o ++ ([x] ++ cur.toList.drop (o + [x].length)) = cur.toList.set o x := by
      rw [List.set_eq_take_append_cons_drop, if_pos hoc]; rfl
    refine ⟨cur.toList, by unfold Blk; simpa using hh, hoc, fun W hW => ?_⟩
    rw [e] at hW
    refine ⟨by rw [List.length_set]; exact hx, .inr ⟨g, cap, (cur.toList.set o x).toArray, rfl, hb, hW, hc, hm, ?_, ?_⟩⟩
    · simpa using hs
    · rw [← ht]
      simp only [List.toList_toArray]
      rw [List.take_set]
/-- A row of cells of a row of one's own is stored. -/
theorem own_sets {w : World} {base n cap g size : Nat} {e : TypeId} {xs : List Value} (h : w.ownsRow base e size (.slice (some ⟨g, 0, none⟩) n cap) n xs) {o : Nat} (cs : List Value) (ho : o + cs.length ≤ n * size) :
    ∃ L, Blk w g e L ∧ o + cs.length ≤ L.length ∧ ∀ W, Blk W g e (L.take o ++ (cs ++ L.drop (o + cs.length))) → W.ownsRow base e size (.slice (some ⟨g, 0, none⟩) n cap) n (xs.take o ++ (cs ++ xs.drop (o + cs.length))) := by
  have hx : xs.length = n * size := h.1
  rcases h.2 with ⟨h0, _⟩ | ⟨g', cap', cur, e1, hb, hh, hc, hm, hs, ht⟩
  · cases h0
  · injection e1 with e1 e2 e3
    injection e1 with e1
    injection e1 with e1
    subst e1 e3
    have hlen : cur.toList.length = cap * size := by simpa using hs
    have hle : n * size ≤ cap * size := Nat.mul_le_mul_right _ hc
    refine ⟨cur.toList, by unfold Blk; simpa using hh, by omega, fun W hW => ?_⟩
    refine ⟨by simp; omega, .inr ⟨g, cap, (cur.toList.take o ++ (cs ++ cur.toList.drop (o + cs.length))).toArray, rfl, hb, hW, hc, hm, by simp; omega, ?_⟩⟩
    rw [← ht]
    simp only [List.toList_toArray]
    rw [List.take_append, List.take_append, List.length_take, Nat.min_eq_left (by omega), List.take_of_length_le (by rw [List.length_take]; omega), List.take_of_length_le (l := cs) (by omega)]
    rw [List.take_take, Nat.min_eq_left (by omega)]
    congr 2
    rw [List.drop_take]
    congr 1; omega
theorem Grew.own' {base base' : Nat} {w W : World} {e e' : TypeId} {size size' n n' : Nat} {v v' : Value} {xs xs' : List Value} (h : Grew base v w W) (hv : w.ownsRow base e size v n xs) (hr : w.ownsRow base' e' size' v' n' xs') (hne : e ≠ e') : W.ownsRow base' e' size' v' n' xs' := by
  refine ⟨hr.1, ?_⟩
  rcases hr.2 with h' | ⟨g, cap, cur, e1, e2, e3, r⟩
  · exact .inl h'
  · have hB : Blk w g e' cur.toList := by unfold Blk; simpa using e3
    have := h.blk hB (own_ne hv hB hne)
    exact .inr ⟨g, cap, cur, e1, e2, by unfold Blk at this; simpa using this, r⟩
theorem Grew.below' {base B : Nat} {v : Value} {w0 w W : World} (h : Grew base v w W) (hb : Below B w0 w) (hB : B ≤ base) : Below B w0 W :=
  ⟨h.grown.os.trans hb.os, h.grown.tape.trans hb.tape, h.grown.output.trans hb.output, Nat.le_trans hb.size h.grown.size, fun k hk =>
    (h.grown.block k (Nat.lt_of_lt_of_le hk (Nat.le_trans hB h.base)) (fun e => by have := h.own k e.symm; omega)).trans (hb.block k hk)⟩
/-- But for block g all that was there is as it was. -/
structure But (g : Nat) (w W : World) : Prop where
  os : W.os = w.os
  tape : W.tape = w.tape
  output : W.output = w.output
  size : w.heap.size ≤ W.heap.size
  block : ∀ k, k < w.heap.size → k ≠ g → W.heap[k]? = w.heap[k]?
theorem But.refl (g : Nat) (w : World) : But g w w := ⟨rfl, rfl, rfl, Nat.le_refl _, fun _ _ _ => rfl⟩
theorem But.add {g : Nat} {w W X : World} (h : But g w W) (hb : Below W.heap.size W X) : But g w X :=
  ⟨hb.os.trans h.os, hb.tape.trans h.tape, hb.output.trans h.output, Nat.le_trans h.size hb.size, fun k hk hg => (hb.block k (Nat.lt_of_lt_of_le hk h.size)).trans (h.block k hk hg)⟩
theorem But.only {g : Nat} {w W X : World} (h : But g w W) (ho : Only g W X) : But g w X :=
  ⟨ho.os.trans h.os, ho.tape.trans h.tape, ho.output.trans h.output, by rw [ho.size]; exact h.size, fun k hk hg => (ho.block k hg).trans (h.block k hk hg)⟩
theorem But.below {g B : Nat} {w0 w W : World} (h : But g w W) (hb : Below B w0 w) (hB : B ≤ g) (hs : B ≤ w.heap.size) : Below B w0 W :=
  ⟨h.os.trans hb.os, h.tape.trans hb.tape, h.output.trans hb.output, Nat.le_trans hb.size h.size, fun k hk => (h.block k (by omega) (by omega)).trans (hb.block k hk)⟩
theorem own_but {w W : World} {base b size n : Nat} {e : TypeId} {v : Value} {xs : List Value} (h : w.ownsRow base e size v n xs) (ho : But b w W) (hb : b < base) : W.ownsRow base e size v n xs := by
  refine ⟨h.1, ?_⟩
  rcases h.2 with h' | ⟨g, cap, cur, e1, e2, e3, r⟩
  · exact .inl h'
  · exact .inr ⟨g, cap, cur, e1, e2, (ho.block g (Array.getElem?_eq_some_iff.1 e3).1 (by omega)).trans e3, r⟩
theorem flat_len {s : Nat} : ∀ {C : List (List Value)}, (∀ c ∈ C, c.length = s) → C.flatten.length = C.length * s
  | [], _ => by simp
  | c :: C, h => by
    rw [List.flatten_cons, List.length_append, flat_len (fun d hd => h d (List.mem_cons_of_mem _ hd)), h c (List.mem_cons_self ..), List.length_cons, Nat.add_mul]; omega
theorem flat_at {s : Nat} (hs : 0 < s) : ∀ {C : List (List Value)}, (∀ c ∈ C, c.length = s) → ∀ j, C.flatten[j]? = (C[j / s]?.getD [])[j % s]?
  | [], _, j => by simp
  | c :: C, h, j => by
    have hc := h c (List.mem_cons_self ..)
    rw [List.flatten_cons]
    by_cases hj : j < s
    · rw [List.getElem?_append_left (by omega), Nat.div_eq_of_lt hj, Nat.mod_eq_of_lt hj]; rfl
    · rw [List.getElem?_append_right (by omega), hc, flat_at hs (fun d hd => h d (List.mem_cons_of_mem _ hd)) (j - s)]
      have e1 : j / s = (j - s) / s + 1 := by
        have := Nat.add_div_right (j - s) hs
        rw [Nat.sub_add_cancel (by omega)] at this
        exact this
      have e2 : j % s = (j - s) % s := by
        have := Nat.add_mod_right (j - s) s
        rw [Nat.sub_add_cancel (by omega)] at this
        exact this
      rw [e1, e2, List.getElem?_cons_succ]
theorem flat_cells {w : World} {x : Addr} {s : Nat} (hs : 0 < s) {C : List (List Value)} (hC : ∀ c ∈ C, c.length = s) (h : ∀ (k : Nat) (hk : k < C.length), ∀ j u, C[k][j]? = some u → w.cell? (x.add (k * s + j)) = some u) :
    ∀ j u, C.flatten[j]? = some u → w.cell? (x.add j) = some u := by
  intro j u hj
  have hlt : j < C.length * s := by
    have := (List.getElem?_eq_some_iff.1 hj).1
    rw [flat_len hC] at this; exact this
  have hk : j / s < C.length := Nat.div_lt_of_lt_mul (by rw [Nat.mul_comm]; exact hlt)
  rw [flat_at hs hC] at hj
  have := h (j / s) hk (j % s) u (by
    rw [List.getElem?_eq_getElem hk] at hj; exact hj)
  rw [Nat.mul_comm, Nat.div_add_mod] at this
  exact this
/-- A row's cells by number. -/
theorem flat_set {s : Nat} (hs : 0 < s) : ∀ {C : List (List Value)}, (∀ c ∈ C, c.length = s) → ∀ {k o : Nat} (_ : k < C.length) (_ : o < s) (x : Value), C.flatten.set (k * s + o) x = (C.set k ((C.getD k []).set o x)).flatten
  | [], _, k, o, hk, _, _ => absurd hk (by simp)
  | c :: C, h, k, o, hk, ho, x => by
    have hc := h c (List.mem_cons_self ..)
    cases k with
    | zero =>
      simp only [Nat.zero_mul, Nat.zero_add, List.flatten_cons, List.set_cons_zero]
      rw [List.set_append_left _ _ (by omega)]; rfl
    | succ k =>
      simp only [List.flatten_cons, List.set_cons_succ]
      rw [List.set_append_right _ _ (by rw [hc, Nat.add_mul]; omega), hc, show (k + 1) * s + o - s = k * s + o by rw [Nat.add_mul]; omega, flat_set hs (fun d hd => h d (List.mem_cons_of_mem _ hd)) (by simpa using hk) ho]; rfl
theorem flat_sets {s : Nat} (hs : 0 < s) : ∀ {C : List (List Value)}, (∀ c ∈ C, c.length = s) → ∀ {k : Nat} (_ : k < C.length) (x : List Value) (_ : x.length = s), C.flatten.take (k * s) ++ (x ++ C.flatten.drop (k * s + x.length)) = (C.set k x).flatten
  | [], _, k, hk, _, _ => absurd hk (by simp)
  | c :: C, h, k, hk, x, hx => by
    have hc := h c (List.mem_cons_self ..)
    cases k with
    | zero =>
      simp only [Nat.zero_mul, Nat.zero_add, List.flatten_cons, List.set_cons_zero, List.take_zero, List.nil_append]
      congr 1
      rw [List.drop_append, List.drop_of_length_le (by omega), hc, hx, Nat.sub_self]; rfl
    | succ k =>
      have ih := flat_sets hs (fun d hd => h d (List.mem_cons_of_mem _ hd)) (by simpa using hk : k < C.length) x hx
      simp only [List.flatten_cons, List.set_cons_succ]
      rw [← ih, List.take_append, List.take_of_length_le (by rw [hc, Nat.add_mul]; omega), List.drop_append, List.drop_of_length_le (by rw [hc, Nat.add_mul]; omega), hc]
      rw [show (k + 1) * s - s = k * s by rw [Nat.add_mul]; omega, show (k + 1) * s + x.length - s = k * s + x.length by rw [Nat.add_mul]; omega]
      simp
/-- 'append(s, x...)': the source wherever. -/
theorem wpList_append_from {P : Program} {ops : Array Oper} {rest : List Oper} {d s x : Tmp} {t t' : TypeId} {pos : String} {after : Array Edge} {a : Act} {w : World} {Q : Exit → Act → World → Prop} {e : TypeId} {size bytes base n m c : Nat} {v : Value} {from_ : Addr} (xs news : List Value)
    (E : ElemOk P t e size bytes) (hs : a.eval (.tmp s) = v) (hx : a.eval (.tmp x) = .slice (some from_) m c) (hown : w.ownsRow base e size v n xs) (hr : ∀ j u, news[j]? = some u → w.cell? (from_.add j) = some u) (hl : news.length = m * size) (h1 : ∀ u ∈ news, u.oneCell' = true)
    (h63 : n + m ≤ maxLen) (hbytes : (n + m) * bytes ≤ 140737488355328) (hbase : base ≤ w.heap.size)
    (h : ∀ v' W, W.ownsRow base e size v' (n + m) (xs ++ news) → Grew base v w W → wpList P ops Q rest (a.put (some d) v') W) :
    wpList P ops Q (⟨some d, .call { callee := .builtin .append, args := #[.tmp s, .tmp x], argTypes := #[t, t] }, t', pos, after, none⟩ :: rest) a w := by
  obtain ⟨ht, i, z, hi, hz, hsz, hby, hzs, hpos⟩ := E
  refine wpList_append_own w rfl (.tmp s) (.tmp x) t rfl base e i z size bytes ht hi hz hsz hby hzs hpos v n xs hs hown from_ m c news hx hl hr h1 h63 hbytes hbase ?_
  intro v' W h2 h3 _
  exact h v' W h2 ⟨h3, fun k hk => (hown.lt k hk).1, hbase⟩
/-- A store of whatever operand into a block that is known whole, with its type. -/
theorem wpList_store_blk' {P : Program} {ops : Array Oper} {rest : List Oper} {ty : TypeId} {p : Tmp} {y : Operand} {t' : TypeId} {pos : String} {after : Array Edge} {a : Act} {w : World} {Q : Exit → Act → World → Prop} {b o : Nat} {t : TypeId} (L cs : List Value)
    (hx : a.eval (.tmp p) = .pointer (some ⟨b, o, none⟩)) (hy : (a.eval y).cells = cs.toArray) (hB : Blk w b t L) (ho : o + cs.length ≤ L.length) (hi : (P.info? ty).map (·.size) = some cs.length) (h1 : ∀ v ∈ cs, v.oneCell' = true)
    (h : ∀ W, Blk W b t (L.take o ++ (cs ++ L.drop (o + cs.length))) → Only b w W → wpList P ops Q rest a W) :
    wpList P ops Q (⟨none, .store ty (.tmp p) y, t', pos, after, none⟩ :: rest) a w := by
  have H := h _ (hB.set cs o ho) (Only.setCells cs o ⟨rfl, rfl, rfl, rfl, fun _ _ => rfl⟩)
  refine wpList_plain rfl fun _ hK => ?_
  unfold Oper.wp execOp
  simp only [hx, Instr.storeAt, Instr.sureAddr, Sem.run_bind, Sem.run_pure, Result.andThen_ok, run_storeVar_any w b o ty _ cs hy (hB.box.there o ho) hi h1]
  exact hK _ _ H
/-- A slice of rows of s cells: what it holds. -/
def SlRow (w : World) (B s : Nat) (A : Option Addr) (C : List (List Value)) : Prop :=
  0 < C.length → ∃ g o, A = some ⟨g, o, none⟩ ∧ g < B ∧ ∀ (k : Nat) (hk : k < C.length), w.rangeAt g (o + k * s) C[k]
theorem SlRow.below {w W : World} {B B' s : Nat} {A : Option Addr} {C : List (List Value)} (h : SlRow w B s A C) (hb : Below B' w W) (hB : B ≤ B') : SlRow W B s A C := by
  intro hn
  obtain ⟨g, o, e, hg, hr⟩ := h hn
  exact ⟨g, o, e, hg, fun k hk => rangeAt_below (hr k hk) hb (by omega)⟩
theorem SlRow.more {w : World} {B B' s : Nat} {A : Option Addr} {C : List (List Value)} (h : SlRow w B s A C) (hB : B ≤ B') : SlRow w B' s A C := fun hn => by
  obtain ⟨g, o, e, hg, hr⟩ := h hn
  exact ⟨g, o, e, by omega, hr⟩
def idxP {α : Type} (p : α → Bool) (xs : List α) : Int := if xs.any p = true then (xs.findIdx p : Int) else -1
theorem idxP_found {α : Type} (p : α → Bool) (xs : List α) (k : Nat) (hk : k < xs.length) (h : p xs[k] = true) (hb : ∀ j (hj : j < k), p (xs[j]'(by omega)) = false) : idxP p xs = k := by
  unfold idxP
  have ha : xs.any p = true := List.any_eq_true.2 ⟨xs[k], List.getElem_mem hk, h⟩
  rw [if_pos ha]
  have : xs.findIdx p = k := by
    rw [List.findIdx_eq hk]
    exact ⟨h, fun j hj => hb j hj⟩
  rw [this]
theorem idxP_none {α : Type} (p : α → Bool) (xs : List α) (hb : ∀ j (hj : j < xs.length), p xs[j] = false) : idxP p xs = -1 := by
  unfold idxP
  have : xs.any p = false := by
    rw [List.any_eq_false]
    intro x hx
    obtain ⟨j, hj, rfl⟩ := List.getElem_of_mem hx
    rw [hb j hj]; simp
  rw [this]; rfl
theorem idxP_any {α : Type} (p : α → Bool) (xs : List α) : decide (0 ≤ idxP p xs) = xs.any p := by
  unfold idxP
  cases xs.any p
  · rfl
  · simp
theorem rng_left {w : World} {g o : Nat} {a b : List Value} (h : w.rangeAt g o (a ++ b)) : w.rangeAt g o a := fun j v hv => h j v (by
  rw [List.getElem?_append_left (List.getElem?_eq_some_iff.1 hv).1]; exact hv)
theorem rng_right {w : World} {g o : Nat} {a b : List Value} (h : w.rangeAt g o (a ++ b)) : w.rangeAt g (o + a.length) b := fun j v hv => by
  have := h (a.length + j) v (by rw [List.getElem?_append_right (by omega), Nat.add_sub_cancel_left]; exact hv)
  rw [Nat.add_assoc]; exact this
end Go.Proofs.YtjekdodboihfhaaDoor

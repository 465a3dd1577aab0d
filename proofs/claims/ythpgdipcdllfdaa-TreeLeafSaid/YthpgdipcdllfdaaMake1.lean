/- Nets that a call makes: rows of nodes of its own, each with ports of its own. -/
import Derived.Test.YthpgdipcdllfdaaPorts1
import Derived.Test.YthpgdipcdllfdaaOpenN
import Derived.Test.YthpgdipcdllfdaaPick
namespace Go.Proofs.Ythpgdipcdllfdaa
open Go.RowKit
theorem flat_len {s : Nat} : ∀ {C : List (List Value)}, (∀ c ∈ C, c.length = s) → C.flatten.length = C.length * s
  | [], _ => by simp
  | c :: C, h => by
    rw [List.flatten_cons, List.length_append, flat_len (fun d hd => h d (List.mem_cons_of_mem _ hd)), h c (List.mem_cons_self ..), List.length_cons, Nat.add_mul]; omega
theorem flat_at {s : Nat} (hs : 0 < s) : ∀ {C : List (List Value)}, (∀ c ∈ C, c.length = s) → ∀ j, C.flatten[j]? = (C[j / s]?.getD [])[j % s]?
  | [], _, j => by simp
  | c :: C, h, j => by
    have hc := h c (List.mem_cons_self ..)
    rw [List.flatten_cons]
    by_cases hj : j < s
    · rw [List.getElem?_append_left (by omega), Nat.div_eq_of_lt hj, Nat.mod_eq_of_lt hj]; rfl
    · rw [List.getElem?_append_right (by omega), hc, flat_at hs (fun d hd => h d (List.mem_cons_of_mem _ hd)) (j - s)]
      have e1 : j / s = (j - s) / s + 1 := by
        have := Nat.add_div_right (j - s) hs
        rw [Nat.sub_add_cancel (by omega)] at this
        exact this
      have e2 : j % s = (j - s) % s := by
        have := Nat.add_mod_right (j - s) s
        rw [Nat.sub_add_cancel (by omega)] at this
        exact this
      rw [e1, e2, List.getElem?_cons_succ]
theorem flat_cells {w : World} {x : Addr} {s : Nat} (hs : 0 < s) {C : List (List Value)} (hC : ∀ c ∈ C, c.length = s) (h : ∀ (k : Nat) (hk : k < C.length), ∀ j u, C[k][j]? = some u → w.cell? (x.add (k * s + j)) = some u) :
    ∀ j u, C.flatten[j]? = some u → w.cell? (x.add j) = some u := by
  intro j u hj
  have hlt : j < C.length * s := by
    have := (List.getElem?_eq_some_iff.1 hj).1
    rw [flat_len hC] at this; exact this
  have hk : j / s < C.length := Nat.div_lt_of_lt_mul (by rw [Nat.mul_comm]; exact hlt)
  rw [flat_at hs hC] at hj
  have := h (j / s) hk (j % s) u (by
    rw [List.getElem?_eq_getElem hk] at hj; exact hj)
  rw [Nat.mul_comm, Nat.div_add_mod] at this
  exact this
def mrows (ms : List Mem) : List Value := (ms.map Mem.vals).flatten
def nrows (M : List (Node × Value)) : List Value := (M.map fun x => x.1.vals x.2).flatten
theorem mrows_len (ms : List Mem) : (mrows ms).length = ms.length * 4 := by
  unfold mrows
  rw [flat_len (s := 4) (fun c hc => by obtain ⟨m, _, rfl⟩ := List.mem_map.1 hc; rfl), List.length_map]
theorem nrows_len (M : List (Node × Value)) : (nrows M).length = M.length * 9 := by
  unfold nrows
  rw [flat_len (s := 9) (fun c hc => by obtain ⟨m, _, rfl⟩ := List.mem_map.1 hc; rfl), List.length_map]
theorem mrows_one (ms : List Mem) : ∀ u ∈ mrows ms, u.oneCell' = true := by
  intro u hu
  unfold mrows at hu
  simp only [List.mem_flatten, List.mem_map] at hu
  obtain ⟨_, ⟨v, _, rfl⟩, hu⟩ := hu
  exact v.one u hu
theorem mrows_snoc (ms : List Mem) (m : Mem) : mrows (ms ++ [m]) = mrows ms ++ m.vals := by simp [mrows]
theorem nrows_snoc (M : List (Node × Value)) (x : Node × Value) : nrows (M ++ [x]) = nrows M ++ x.1.vals x.2 := by simp [nrows]
theorem elemMem : ElemOk Try.prog 30 37 4 32 := by
  have h : (Try.prog.info? 37).map (fun i => (i.zero, i.size, i.bytes)) = some (some (.agg #[.int .i64 0, .int .i64 0, .int .i64 0, .int .i64 0]), 4, 32) := by kernel_rfl
  obtain ⟨i, hi, hz, hs, hb⟩ := info_parts h
  exact ⟨Try.underlying30, i, _, hi, hz, hs, hb, rfl, by decide⟩
theorem elemNode : ElemOk Try.prog 22 32 9 48 := by
  have h : (Try.prog.info? 32).map (fun i => (i.zero, i.size, i.bytes)) = some (some (.agg #[.int .i64 0, .int .i64 0, .int .u8 0, .int .u8 0, .int .u8 0, .int .u8 0, .int .u8 0, .int .u8 0, .slice none 0 0]), 9, 48) := by kernel_rfl
  obtain ⟨i, hi, hz, hs, hb⟩ := info_parts h
  exact ⟨Try.underlying22, i, _, hi, hz, hs, hb, rfl, by decide⟩
theorem info30 : (Try.prog.info? 30).map (·.size) = some 1 := by kernel_rfl
theorem infoI : (Try.prog.info? 3).map (·.size) = some 1 := by kernel_rfl
theorem infoSl : (Try.prog.info? 30).map (·.size) = some 1 := by kernel_rfl
/-- 'append(s, x...)': the source wherever. -/
theorem wpList_append_from {P : Program} {ops : Array Oper} {rest : List Oper} {d s x : Tmp} {t t' : TypeId} {pos : String} {after : Array Edge} {a : Act} {w : World} {Q : Exit → Act → World → Prop} {e : TypeId} {size bytes base n m c : Nat} {v : Value} {from_ : Addr} (xs news : List Value)
    (E : ElemOk P t e size bytes) (hs : a.eval (.tmp s) = v) (hx : a.eval (.tmp x) = .slice (some from_) m c) (hown : w.ownsRow base e size v n xs) (hr : ∀ j u, news[j]? = some u → w.cell? (from_.add j) = some u) (hl : news.length = m * size) (h1 : ∀ u ∈ news, u.oneCell' = true)
    (h63 : n + m ≤ maxLen) (hbytes : (n + m) * bytes ≤ 140737488355328) (hbase : base ≤ w.heap.size)
    (h : ∀ v' W, W.ownsRow base e size v' (n + m) (xs ++ news) → Grew base v w W → wpList P ops Q rest (a.put (some d) v') W) :
    wpList P ops Q (⟨some d, .call { callee := .builtin .append, args := #[.tmp s, .tmp x], argTypes := #[t, t] }, t', pos, after, none⟩ :: rest) a w := by
  obtain ⟨ht, i, z, hi, hz, hsz, hby, hzs, hpos⟩ := E
  refine wpList_append_own w rfl (.tmp s) (.tmp x) t rfl base e i z size bytes ht hi hz hsz hby hzs hpos v n xs hs hown from_ m c news hx hl hr h1 h63 hbytes hbase ?_
  intro v' W h2 h3 _
  exact h v' W h2 ⟨h3, fun k hk => (hown.lt k hk).1, hbase⟩
def OwnMems (w : World) (ms : List Mem) (e : Ending) (w' : World) : Prop := ∃ v, e = .returned v ∧ w'.ownsRow w.heap.size 37 4 v ms.length (mrows ms) ∧ Below w.heap.size w w'
theorem mems_cells {w : World} {x : Addr} {ms : List Mem} (h : SlRow w w.heap.size 4 (some x) (ms.map Mem.vals)) : ∀ j u, (mrows ms)[j]? = some u → w.cell? (x.add j) = some u := by
  by_cases h0 : 0 < ms.length
  · obtain ⟨g, o, e, _, hr⟩ := h (by rw [List.length_map]; exact h0)
    injection e with e
    subst e
    refine flat_cells (s := 4) (by omega) (fun c hc => by obtain ⟨m, _, rfl⟩ := List.mem_map.1 hc; rfl) (fun k hk j u hj => ?_)
    have := hr k hk j u hj
    rw [Addr.add_mid, ← Nat.add_assoc]
    exact this
  · have : ms = [] := List.length_eq_zero_iff.1 (by omega)
    subst this
    intro j u hj
    simp [mrows] at hj
set_option maxRecDepth 100000 in
set_option maxHeartbeats 1000000 in
theorem cloneM_some (ms : List Mem) (x : Addr) (cap n : Nat) (hn : ms.length = n) (h8 : n ≤ 8) (w : World) (hr : SlRow w w.heap.size 4 (some x) (ms.map Mem.vals)) :
    Calls Try.prog 17 #[.slice (some x) n cap] w (OwnMems w ms) := by
  have hcell := mems_cells hr
  have hlt : ∀ j u, (mrows ms)[j]? = some u → ∀ X, X = w.alloc (.cells #[] 37) → X.cell? (x.add j) = some u := fun j u hj X e => by
    subst e
    have h1 := hcell j u hj
    have hlt : (x.add j).block < w.heap.size := by
      rcases Nat.lt_or_ge (x.add j).block w.heap.size with hlt | hge
      · exact hlt
      · rw [World.cell?, Array.getElem?_eq_none hge] at h1; cases h1
    exact (((Below.refl _ w).alloc (Nat.le_refl _) _).cell hlt).trans h1
  have Hr := Lib.hid hlt
  have Hn := Lib.hid hn
  clear hr hn hcell hlt
  have hq := @Lib.run_eql_slice_nil Try.prog
  go_enter Try.func17, Try.ntmps17
  go_wp2_with (
    (with_reducible refine wpList_append_from (t := 30) (v := .slice (some ⟨w.heap.size, 0, none⟩) 0 0) (base := w.heap.size) (n := 0) (m := n) (c := cap) (from_ := x) [] (mrows ms) elemMem ?hs ?hx ?ow ?hr ?hl ?h1 ?h63 ?hb ?hba ?hk)
    case hs => rfl
    case hx => rfl
    case ow => exact ⟨rfl, .inr ⟨w.heap.size, 0, #[], rfl, Nat.le_refl _, heap_alloc_new w _, Nat.le_refl 0, Nat.zero_le _, rfl, rfl⟩⟩
    case hr => exact fun j u hj => Hr.out j u hj _ rfl
    case hl => rw [mrows_len, Hn.out]
    case h1 => exact mrows_one ms
    case h63 => unfold maxLen; omega
    case hb => omega
    case hba => simp
    intro v' w3 hown hgrew)
  have hb := hgrew.below ((Below.refl _ w).alloc (Nat.le_refl _) _)
  rw [Nat.zero_add, List.nil_append] at hown
  exact bodyPost_ret (v := v') (by simp [results, Try.results17, go_sem]) rfl ⟨_, rfl, by rw [Hn.out]; exact hown, hb⟩
set_option maxRecDepth 100000 in
set_option maxHeartbeats 1000000 in
theorem cloneM_none (cap : Nat) (w : World) :
    Calls Try.prog 17 #[.slice none 0 cap] w (OwnMems w []) := by
  have hq := @Lib.run_eql_slice_nil Try.prog
  go_enter Try.func17, Try.ntmps17
  go_wp2_with fail
  exact bodyPost_ret (v := .slice none 0 0) (by simp [results, Try.results17, go_sem]) rfl ⟨_, rfl, World.ownsRow_nil _ _ _ _, Below.refl _ _⟩
theorem cloneM_any (ms : List Mem) (sv : Value) (h8 : ms.length ≤ 8) (w : World) (hr : MemsIn w w.heap.size sv ms) :
    Calls Try.prog 17 #[sv] w (OwnMems w ms) := by
  obtain ⟨A, cap, rfl, hc, hr⟩ := hr
  cases A with
  | some x => exact cloneM_some ms x cap _ rfl h8 w hr
  | none =>
    have h0 : ms = [] := by
      rcases Nat.eq_zero_or_pos ms.length with h | h
      · exact List.length_eq_zero_iff.1 h
      · obtain ⟨g, o, e, _⟩ := hr (by rw [List.length_map]; exact h)
        cases e
    subst h0
    exact cloneM_none cap w
/-- One cell of a row of one's own is stored. -/
theorem own_set1 {w : World} {base n cap g size : Nat} {e : TypeId} {xs : List Value} (h : w.ownsRow base e size (.slice (some ⟨g, 0, none⟩) n cap) n xs) {o : Nat} (ho : o < n * size) (x : Value) :
    ∃ L, Blk w g e L ∧ o < L.length ∧ ∀ W, Blk W g e (L.take o ++ ([x] ++ L.drop (o + [x].length))) → W.ownsRow base e size (.slice (some ⟨g, 0, none⟩) n cap) n (xs.set o x) := by
  have hx : xs.length = n * size := h.1
  rcases h.2 with ⟨h0, _⟩ | ⟨g', cap', cur, e1, hb, hh, hc, hm, hs, ht⟩
  · cases h0
  · injection e1 with e1 e2 e3
    injection e1 with e1
    injection e1 with e1
    subst e1 e3
    have hlen : cur.toList.length = cap * size := by simpa using hs
    have hle : n * size ≤ cap * size := Nat.mul_le_mul_right _ hc
    have hoc : o < cur.toList.length := by omega
    have e : cur.toList.take o ++ ([x] ++ cur.toList.drop (o + [x].length)) = cur.toList.set o x := by
      rw [List.set_eq_take_append_cons_drop, if_pos hoc]; rfl
    refine ⟨cur.toList, by unfold Blk; simpa using hh, hoc, fun W hW => ?_⟩
    rw [e] at hW
    refine ⟨by rw [List.length_set]; exact hx, .inr ⟨g, cap, (cur.toList.set o x).toArray, rfl, hb, hW, hc, hm, ?_, ?_⟩⟩
    · simpa using hs
    · rw [← ht]
      simp only [List.toList_toArray]
      rw [List.take_set]
      
/-- Nodes of one's own, each with ports of its own. -/
structure OwnNet (w : World) (base : Nat) (v : Value) (M : List (Node × Value)) : Prop where
  row : w.ownsRow base 32 9 v M.length (nrows M)
  mems : ∀ x ∈ M, w.ownsRow base 37 4 x.2 x.1.ports.length (mrows x.1.ports)
theorem OwnNet.nil (w : World) (base : Nat) : OwnNet w base (.slice none 0 0) [] := ⟨World.ownsRow_nil _ _ _ _, fun x hx => by cases hx⟩
theorem OwnNet.below {w W : World} {base B : Nat} {v : Value} {M : List (Node × Value)} (h : OwnNet w base v M) (hb : Below B w W) (hB : w.heap.size ≤ B) : OwnNet W base v M :=
  ⟨own_below h.row hb hB, fun x hx => own_below (h.mems x hx) hb hB⟩
theorem OwnNet.snoc {w W : World} {base base' : Nat} {v v' sv : Value} {M : List (Node × Value)} {N : Node} (h : OwnNet w base v M) (hown : W.ownsRow base 32 9 v' (M.length + 1) (nrows M ++ N.vals sv)) (hg : Grew base v w W)
    (hm : w.ownsRow base' 37 4 sv N.ports.length (mrows N.ports)) (hb : base ≤ base') : OwnNet W base v' (M ++ [(N, sv)]) := by
  refine ⟨by rw [nrows_snoc, List.length_append]; exact hown, fun x hx => ?_⟩
  rcases List.mem_append.1 hx with hx | hx
  · exact hg.own' h.row (h.mems x hx) (by decide)
  · rw [List.mem_singleton.1 hx]
    have := hg.own' h.row hm (by decide)
    exact own_base this hb
theorem own_memsIn {w : World} {base : Nat} {sv : Value} {ms : List Mem} (h : w.ownsRow base 37 4 sv ms.length (mrows ms)) : MemsIn w w.heap.size sv ms := by
  obtain ⟨A, cap, e1, e2, e3⟩ := own_row (C := ms.map Mem.vals) h (fun c hc => by obtain ⟨v, _, rfl⟩ := List.mem_map.1 hc; rfl) (by rw [List.length_map])
  refine ⟨A, cap, e1, e2, fun hp => ?_⟩
  rw [List.length_map] at hp
  obtain ⟨g, a, b, c, d⟩ := e3 hp
  exact ⟨g, 0, a, c, fun k hk => by rw [Nat.zero_add]; exact d k hk⟩
theorem OwnNet.nodesIn {w : World} {base : Nat} {v : Value} {M : List (Node × Value)} (h : OwnNet w base v M) : ∃ A cap, v = .slice A M.length cap ∧ M.length ≤ cap ∧ NodesIn w w.heap.size A M := by
  obtain ⟨A, cap, e1, e2, e3⟩ := own_row (C := M.map fun x => x.1.vals x.2) h.row (fun c hc => by obtain ⟨v, _, rfl⟩ := List.mem_map.1 hc; rfl) (by rw [List.length_map])
  refine ⟨A, cap, e1, e2, fun hp => ?_, fun x hx => own_memsIn (h.mems x hx)⟩
  rw [List.length_map] at hp
  obtain ⟨g, a, b, c, d⟩ := e3 hp
  exact ⟨g, 0, a, c, fun k hk => by rw [Nat.zero_add]; exact d k hk⟩
end Go.Proofs.Ythpgdipcdllfdaa

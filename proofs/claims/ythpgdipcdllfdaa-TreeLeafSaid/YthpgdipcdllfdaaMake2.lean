/- More on rows of one's own: one cell stored; equal rows of numbers. -/
import Derived.Test.YthpgdipcdllfdaaMake1
namespace Go.Proofs.Ythpgdipcdllfdaa
open Go.RowKit
theorem own_only' {w W : World} {base b size n : Nat} {e : TypeId} {v : Value} {xs : List Value} (h : w.ownsRow base e size v n xs) (ho : Only b w W) (hb : b < base) : W.ownsRow base e size v n xs := by
  refine ⟨h.1, ?_⟩
  rcases h.2 with h' | ⟨g, cap, cur, e1, e2, e3, r⟩
  · exact .inl h'
  · exact .inr ⟨g, cap, cur, e1, e2, (ho.block g (by omega)).trans e3, r⟩
theorem below_refl_only {b : Nat} {w W : World} (ho : Only b w W) {B : Nat} (hB : B ≤ b) : Below B w W := ho.below hB (Below.refl _ _)
theorem MemsIn.imp {w : World} {B B' : Nat} {sv : Value} {ms : List Mem} (h : MemsIn w B sv ms) (hB : B ≤ B') : MemsIn w B' sv ms := by
  obtain ⟨A, cap, e, hc, hr⟩ := h
  exact ⟨A, cap, e, hc, hr.more hB⟩
/-- A row's cells by number. -/
theorem flat_set {s : Nat} (hs : 0 < s) : ∀ {C : List (List Value)}, (∀ c ∈ C, c.length = s) → ∀ {k o : Nat} (_ : k < C.length) (_ : o < s) (x : Value), C.flatten.set (k * s + o) x = (C.set k ((C.getD k []).set o x)).flatten
  | [], _, k, o, hk, _, _ => absurd hk (by simp)
  | c :: C, h, k, o, hk, ho, x => by
    have hc := h c (List.mem_cons_self ..)
    cases k with
    | zero =>
      simp only [Nat.zero_mul, Nat.zero_add, List.flatten_cons, List.set_cons_zero]
      rw [List.set_append_left _ _ (by omega)]; rfl
    | succ k =>
      simp only [List.flatten_cons, List.set_cons_succ]
      rw [List.set_append_right _ _ (by rw [hc, Nat.add_mul]; omega), hc, show (k + 1) * s + o - s = k * s + o by rw [Nat.add_mul]; omega, flat_set hs (fun d hd => h d (List.mem_cons_of_mem _ hd)) (by simpa using hk) ho]; rfl
theorem mrows_set (ms : List Mem) {k : Nat} (hk : k < ms.length) (c : Int) : (mrows ms).set (k * 4 + 2) (.int .i64 c) = mrows (ms.set k { ms[k] with cost := c }) := by
  unfold mrows
  rw [flat_set (s := 4) (by omega) (fun c hc => by obtain ⟨m, _, rfl⟩ := List.mem_map.1 hc; rfl) (by simpa using hk) (by omega), List.map_set]
  congr 2
  rw [List.getD_eq_getElem?_getD, List.getElem?_map, List.getElem?_eq_getElem hk]; rfl
theorem vrows_set (V : List Vec) {k : Nat} (hk : k < V.length) (c : Int) : (vrows V).set (k * 21 + 8) (.int .i64 c) = vrows (V.set k { V[k] with cost := c }) := by
  unfold vrows
  rw [flat_set (s := 21) (by omega) (fun c hc => by obtain ⟨m, _, rfl⟩ := List.mem_map.1 hc; rfl) (by simpa using hk) (by omega), List.map_set]
  congr 2
  rw [List.getD_eq_getElem?_getD, List.getElem?_map, List.getElem?_eq_getElem hk]; rfl
/-- Numbers in memory. -/
def IntsAt (w : World) (A : Option Addr) (xs : List Int) : Prop := 0 < xs.length → ∃ g, A = some ⟨g, 0, none⟩ ∧ g < w.heap.size ∧ ∀ k, k < xs.length → w.cell? ⟨g, k, none⟩ = some (.int .i64 (xs.getD k 0))
theorem IntsAt.below {w W : World} {B : Nat} {A : Option Addr} {xs : List Int} (h : IntsAt w A xs) (hb : Below B w W) (hB : w.heap.size ≤ B) : IntsAt W A xs := fun h0 => by
  obtain ⟨g, e, hg, hk⟩ := h h0
  exact ⟨g, e, Nat.lt_of_lt_of_le hg hb.size, fun k hkn => laterc (hk k hkn) hb (by omega)⟩
theorem equal_ints (xs : List Int) (A1 A2 : Option Addr) (n c1 c2 : Nat) (hn : xs.length = n) (h12 : n ≤ 1000) (w : World) (h1 : IntsAt w A1 xs) (h2 : IntsAt w A2 xs) :
    Calls Try.prog 21 #[.slice A1 n c1, .slice A2 n c2] w fun e w' => e = .returned (.bool true) ∧ Below w.heap.size w w' := by
  subst hn
  rcases Nat.eq_zero_or_pos xs.length with h0 | h0
  · rw [h0]
    refine (Try.slices_Equal_int_empty A1 A2 c1 0 c2 w (by omega)).mono ?_
    rintro e w' ⟨rfl, rfl⟩
    exact ⟨by simp, Below.refl _ _⟩
  · obtain ⟨g1, rfl, _, k1⟩ := h1 h0
    obtain ⟨g2, rfl, _, k2⟩ := h2 h0
    refine (Try.slices_Equal_int g1 0 _ c1 g2 0 _ c2 xs xs w (Nat.le_refl _) (Nat.le_refl _) (by omega) (by omega) (fun j hj => ?_) (fun j hj => ?_)).mono ?_
    · rw [Nat.zero_add]; exact k1 j hj
    · rw [Nat.zero_add]; exact k2 j hj
    · rintro e w' ⟨rfl, q, rfl⟩
      exact ⟨by simp, ⟨rfl, rfl, rfl, Nat.le_refl _, fun _ _ => rfl⟩⟩
/-- A row of a matrix. -/
theorem RowsAt.row {w : World} {A : Option Addr} {n cap : Nat} {R : Nat → List Int} (h : RowsAt w (.slice A n cap) R n) {i : Nat} (hi : i < n) :
    ∃ g A' c', A = some ⟨g, 0, none⟩ ∧ g < w.heap.size ∧ w.cell? ⟨g, i, none⟩ = some (.slice A' (R i).length c') ∧ (R i).length ≤ c' ∧ IntsAt w A' (R i) := by
  obtain ⟨A0, cap0, e, _, hr⟩ := h
  injection e with e1 e2 e3
  subst e1
  obtain ⟨g, e4, hg, hi'⟩ := hr (by omega)
  obtain ⟨A', c', h1, h2, h3⟩ := hi' i hi
  exact ⟨g, A', c', e4, hg, h1, h2, h3⟩
theorem ports_ok {l : List Node} (hv : validNet l = true) : PortsOk l := fun i k hi hk => by
  have := cost_pos hv hi hk
  exact ⟨this.1, this.2.1⟩
theorem okTo_valid {l : List Node} (hv : validNet l = true) : okTo l l.length = true := by
  unfold okTo
  rw [List.all_eq_true]
  intro k hk
  have hk' : k < l.length := by simpa using hk
  have hn := valid_node hv hk'
  unfold rightN at hn
  simp only [Bool.and_eq_true, decide_eq_true_eq, List.all_eq_true] at hn
  unfold okAt
  simp only [Bool.and_eq_true, Bool.not_eq_true', decide_eq_true_eq]
  refine ⟨hn.1.1.1, hn.1.1.2, ?_, ?_, ?_⟩
  · rw [List.any_eq_false]
    intro m hm
    unfold badM
    simpa using hn.1.2 m hm
  · unfold dupTo
    rw [List.any_eq_false]
    intro q hq
    have hq' : q < (nodeAt l k).ports.length := by simpa using hq
    intro hd
    unfold dupAt at hd
    rw [List.any_eq_true] at hd
    obtain ⟨p, hp, he⟩ := hd
    rw [decide_eq_true_eq] at he
    rw [List.mem_take_iff_getElem] at hp
    obtain ⟨j, hj, rfl⟩ := hp
    have := distinctP_ne hn.2 (show j < q by omega) hq'
    apply this
    rw [← he, List.getD_eq_getElem?_getD, List.getElem?_eq_getElem (by omega)]; rfl
  · unfold brTwice
    rw [List.any_eq_false]
    intro x hx
    rw [List.mem_take_iff_getElem] at hx
    obtain ⟨j, hj, rfl⟩ := hx
    have hb : distinctB l = true := by
      unfold validNet at hv
      rw [Bool.and_eq_true] at hv
      exact hv.2
    have := distinctB_ne hb (show j < k by omega) hk'
    intro he
    rw [decide_eq_true_eq] at he
    apply this
    rw [List.getD_eq_getElem?_getD, List.getElem?_eq_getElem (by omega)]
    exact he
end Go.Proofs.Ythpgdipcdllfdaa

/- TreeIs: the walk. -/
import Derived.Test.YthpgdipcdllfdaaRoot2
import Derived.Test.YthpgdipcdllfdaaIs1
import Derived.Test.YthpgdipcdllfdaaOpenN
import Derived.Maps.OwnSet
import Derived.Maps.Views
namespace Go.Proofs.Ythpgdipcdllfdaa
open Go.RowKit
/-- The data that the closure reads: rows of roles behind a variable. -/
structure VarRows (w : World) (p : Nat) (AR : Option Addr) (n capR : Nat) (R : Nat → List Int) : Prop where
  cell : w.cell? ⟨p, 0, none⟩ = some (.slice AR n capR)
  lt : p < w.heap.size
  rows : RowsAt w (.slice AR n capR) R n
theorem VarRows.below {w W : World} {p n capR : Nat} {AR : Option Addr} {R : Nat → List Int} (h : VarRows w p AR n capR R) (hb : Below w.heap.size w W) : VarRows W p AR n capR R :=
  ⟨laterc h.cell hb h.lt, Nat.lt_of_lt_of_le h.lt hb.size, h.rows.below hb⟩
theorem VarRows.at_ {w : World} {p n capR : Nat} {AR : Option Addr} {R : Nat → List Int} (h : VarRows w p AR n capR R) {i k : Nat} (hi : i < n) (hk : k < (R i).length) :
    ∃ gR gJ c', AR = some ⟨gR, 0, none⟩ ∧ w.cell? ⟨gR, i, none⟩ = some (.slice (some ⟨gJ, 0, none⟩) (R i).length c') ∧ (R i).length ≤ c' ∧ w.cell? ⟨gJ, k, none⟩ = some (.int .i64 ((R i).getD k 0)) ∧ gR < w.heap.size ∧ gJ < w.heap.size := by
  obtain ⟨A, cap, e, _, hr⟩ := h.rows
  injection e with e1 e2 e3
  subst e1
  obtain ⟨gR, e4, hg, hi'⟩ := hr (by omega)
  obtain ⟨A', c', h1, h2, h3⟩ := hi' i hi
  obtain ⟨g', e5, hg', hk'⟩ := h3 (by omega)
  subst e5
  exact ⟨gR, g', c', e4, h1, h2, hk' k hk, hg, hg'⟩
set_option maxRecDepth 100000 in
set_option maxHeartbeats 1000000 in
theorem is1_any (p n capR : Nat) (AR : Option Addr) (R : Nat → List Int) (i k : Nat) (hi : i < n) (hn : n ≤ capR) (hk : k < (R i).length) (h8 : (R i).length ≤ 8) (h12 : n ≤ 12) (w : World) (h : VarRows w p AR n capR R) :
    Calls Try.prog 25 #[.int .i64 i, .int .i64 k, .pointer (some ⟨p, 0, none⟩)] w fun e w' => e = .returned (.bool (decide ((R i).getD k 0 ≠ 3))) ∧ Below w.heap.size w w' := by
  obtain ⟨gR, gJ, c', rfl, h1, h2, h3, _, _⟩ := h.at_ hi hk
  have h0 := h.cell
  generalize (R i).getD k 0 = v at *
  generalize (R i).length = m at *
  have hd : decide (v ≠ 3) = (v != 3) := by by_cases e : v = 3 <;> simp [e]
  have Hd := Lib.hid hd
  clear hd h
  go_enter Try.func25, Try.ntmps25
  go_wp2_with fail
  go_ret
  exact ⟨by rw [Hd.out]; rfl, Below.refl _ _⟩
theorem below_grown {B b : Nat} {w0 w W : World} (hb : Below B w0 w) (hg : w.grownBy W (some b)) (hB : B ≤ b) (hs : B ≤ w.heap.size) : Below B w0 W :=
  ⟨hg.os.trans hb.os, hg.tape.trans hb.tape, hg.output.trans hb.output, Nat.le_trans hb.size hg.size, fun k hk =>
    (hg.block k (by omega) (by intro e; injection e; omega)).trans (hb.block k hk)⟩
theorem ownsMap_block {H : Type} {P : Program} {k : TypeId} {R : Value → Option (DataW H × List MemPlace)} {w W : World} {b n : Nat} {D : DataW H} (h : w.ownsMap P k R b n D) (e : W.heap[b]? = w.heap[b]?) : W.ownsMap P k R b n D := by
  obtain ⟨es, clock, h1, h2⟩ := h
  exact ⟨es, clock, e.trans h1, h2⟩
theorem ownsMap_start {H : Type} {P : Program} {k : TypeId} {R : Value → Option (DataW H × List MemPlace)} {W : World} {b : Nat} (h : W.heap[b]? = some (.map #[] 0)) : W.ownsMap P k R b 0 (.map []) := by
  obtain ⟨es, clock, hb, F, hs, hD⟩ := World.ownsMap_made W P k R
  have e : (W.alloc (.map #[] 0)).heap[W.heap.size]? = some (.map #[] 0) := heap_alloc_new _ _
  rw [e] at hb
  injection hb with hb
  injection hb with h1 h2
  subst h1 h2
  exact ⟨#[], 0, h, F, hs, hD⟩
theorem wf_small {v : Int} (h0 : 0 ≤ v) (h1 : v ≤ 1000) : (Lit.int .i64 v).wf = true := by
  simp [Lit.wf, IntKind.min, IntKind.max, IntKind.signed, IntKind.bits]; omega
def numsTo (r : List Int) (k : Nat) : List Lit := (List.range k).map fun x => .int .i64 (r.getD x 0)
theorem numsTo_succ (r : List Int) (k : Nat) : numsTo r (k + 1) = numsTo r k ++ [.int .i64 (r.getD k 0)] := by simp [numsTo, List.range_succ]
/-- How many numbers there are. -/
def kindsOf (r : List Int) (k : Nat) : Nat := ((numsTo r k).foldl Maps.addKey []).length
theorem addKey_spec : ∀ (xs : List Lit) (L : List Int), L.Nodup → (∀ x ∈ xs, ∃ v, x = Lit.int .i64 v) → ∃ K : List Int, xs.foldl Maps.addKey (L.map (Lit.int .i64)) = K.map (Lit.int .i64) ∧ K.Nodup ∧ ∀ v, v ∈ K ↔ v ∈ L ∨ Lit.int .i64 v ∈ xs
  | [], L, hL, _ => ⟨L, rfl, hL, fun v => by simp⟩
  | x :: xs, L, hL, hx => by
    obtain ⟨v, rfl⟩ := hx x (List.mem_cons_self ..)
    have hs : ∀ u, (Lit.int .i64 u).sameKey (Lit.int .i64 v) = decide (u = v) := fun u => by
      by_cases e : u = v
      · subst e; rw [WideAt.sameKey_self (by simp [WideAt.IsKeyLit])]; simp
      · have : ¬ Lit.int .i64 u = Lit.int .i64 v := fun h => e (by injection h)
        rw [Bool.eq_iff_iff, WideAt.sameKey_iff (by simp [WideAt.IsKeyLit])]
        simp [e]
    have hany : (L.map (Lit.int .i64)).any (fun y => y.sameKey (Lit.int .i64 v)) = decide (v ∈ L) := by
      rw [List.any_map, Bool.eq_iff_iff, List.any_eq_true, decide_eq_true_eq]
      constructor
      · rintro ⟨u, hu, h⟩
        simp only [Function.comp, hs, decide_eq_true_eq] at h
        exact h ▸ hu
      · intro h
        exact ⟨v, h, by simp [hs]⟩
    have ha : Maps.addKey (L.map (Lit.int .i64)) (.int .i64 v) = if decide (v ∈ L) = true then L.map (Lit.int .i64) else L.map (Lit.int .i64) ++ [.int .i64 v] := by
      unfold Maps.addKey; rw [hany]
    rw [List.foldl_cons, ha]
    by_cases hv : v ∈ L
    · rw [if_pos (by simpa using hv)]
      obtain ⟨K, h1, h2, h3⟩ := addKey_spec xs L hL (fun y hy => hx y (List.mem_cons_of_mem _ hy))
      refine ⟨K, h1, h2, fun u => ?_⟩
      rw [h3]
      constructor
      · rintro (h | h)
        · exact .inl h
        · exact .inr (List.mem_cons_of_mem _ h)
      · rintro (h | h)
        · exact .inl h
        · rcases List.mem_cons.1 h with e | h
          · injection e with _ e; subst e; exact .inl hv
          · exact .inr h
    · rw [if_neg (by simpa using hv)]
      obtain ⟨K, h1, h2, h3⟩ := addKey_spec xs (L ++ [v]) (by
        rw [List.nodup_append]
        refine ⟨hL, by simp, fun a ha b hb e => ?_⟩
        rw [List.mem_singleton.1 hb] at e
        exact hv (e ▸ ha)) (fun y hy => hx y (List.mem_cons_of_mem _ hy))
      rw [List.map_append] at h1
      refine ⟨K, h1, h2, fun u => ?_⟩
      rw [h3]
      constructor
      · rintro (h | h)
        · rcases List.mem_append.1 h with h | h
          · exact .inl h
          · rw [List.mem_singleton.1 h]; exact .inr (List.mem_cons_self ..)
        · exact .inr (List.mem_cons_of_mem _ h)
      · rintro (h | h)
        · exact .inl (List.mem_append_left _ h)
        · rcases List.mem_cons.1 h with e | h
          · injection e with _ e; subst e; exact .inl (List.mem_append_right _ (List.mem_singleton.2 rfl))
          · exact .inr h
theorem kinds_count {l : List Node} {V : List Vec} (hv : validNet l = true) (h : Sol l V) : cnt (fun p => passH l V p.1 p.2) (portsTo l l.length 0) + kindsOf (roomsM l (passH l V)) (l.length + 64) = l.length + 64 := by
  obtain ⟨K, h1, h2, h3⟩ := addKey_spec (numsTo (roomsM l (passH l V)) (l.length + 64)) [] (by simp) (fun x hx => by
    unfold numsTo at hx
    obtain ⟨y, _, rfl⟩ := List.mem_map.1 hx
    exact ⟨_, rfl⟩)
  have h4 : kindsOf (roomsM l (passH l V)) (l.length + 64) = K.length := by
    unfold kindsOf
    have h1' : (numsTo (roomsM l (passH l V)) (l.length + 64)).foldl Maps.addKey [] = K.map (Lit.int .i64) := h1
    rw [h1', List.length_map]
  rw [h4]
  refine pass_count hv h K h2 (fun v => ?_)
  rw [h3]
  unfold numsTo
  simp only [List.not_mem_nil, false_or, List.mem_map, List.mem_range]
  constructor
  · rintro ⟨x, hx, e⟩
    injection e with _ e
    exact ⟨x, hx, e⟩
  · rintro ⟨x, hx, e⟩
    exact ⟨x, hx, by rw [e]⟩
theorem is1_pass {l : List Node} {V : List Vec} (p n capR : Nat) (AR : Option Addr) (R : Nat → List Int) (i k : Nat) (hi : i < n) (hn : n ≤ capR) (hk : k < (R i).length) (h8 : (R i).length ≤ 8) (h12 : n ≤ 12) (w : World) (h : VarRows w p AR n capR R) (hr : (R i).getD k 0 = roleAt l V i k) :
    Calls Try.prog 25 (#[.int .i64 i, .int .i64 k] ++ #[.pointer (some ⟨p, 0, none⟩)]) w fun e w' => e = .returned (.bool (passH l V i k)) ∧ Below w.heap.size w w' := by
  have e : (#[.int .i64 i, .int .i64 k] ++ #[.pointer (some ⟨p, 0, none⟩)] : Array Value) = #[.int .i64 i, .int .i64 k, .pointer (some ⟨p, 0, none⟩)] := rfl
  have hd : passH l V i k = decide ((R i).getD k 0 ≠ 3) := by rw [hr]; rfl
  rw [e, hd]
  exact is1_any p n capR AR R i k hi hn hk h8 h12 w h
theorem is1_fun : ∀ (args : Array Value) (W : World), (callFunc 25 args).run Try.prog W = .ok (.enter 25 args) W := fun args W => by kernel_rfl
theorem rooms_pass (L : List (Node × Value)) (A : Option Addr) (n cap : Nat) (l : List Node) (V : List Vec) (R : Nat → List Int) (hl' : L.map (·.1) = l) (hL : L.length = n) (h12 : n ≤ 12) (hcap : n ≤ cap) (hv : validNet l = true) (hrl : ∀ i, i < n → (R i).length = (nodeAt l i).ports.length)
    (hrg : ∀ i k, i < n → k < (nodeAt l i).ports.length → (R i).getD k 0 = roleAt l V i k) (w : World) (hl : NodesIn w w.heap.size A L) (p capR : Nat) (AR : Option Addr) (hvr : VarRows w p AR n capR R) (hcr : n ≤ capR) :
    Calls Try.prog 23 #[.slice A n cap, .func (.func 25) #[] #[.pointer (some ⟨p, 0, none⟩)]] w (RoomPost w l (passH l V)) := by
  subst hl'
  refine rooms_any L A n cap _ _ _ hL h12 hcap w hl hv is1_fun ?_
  intro i k W' hi hk hb'
  have h8 : (R i).length ≤ 8 := by
    rw [hrl i hi]
    have hx := valid_node hv (i := i) (by rw [List.length_map]; omega)
    unfold rightN at hx
    simp only [Bool.and_eq_true, decide_eq_true_eq] at hx
    omega
  exact is1_pass p n capR AR R i k hi hcr (by rw [hrl i hi]; exact hk) h8 h12 W' (hvr.below hb') (hrg i k hi hk)
theorem passH_int {l : List Node} {V : List Vec} {i k : Nat} {R : Nat → List Int} (h : (R i).getD k 0 = roleAt l V i k) : decide ((R i).getD k 0 ≠ 3) = passH l V i k := by rw [h]; rfl
end Go.Proofs.Ythpgdipcdllfdaa

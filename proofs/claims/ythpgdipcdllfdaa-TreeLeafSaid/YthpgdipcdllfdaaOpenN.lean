/- A slice of nodes that came in, opened: a net in memory. -/
import Derived.Test.YthpgdipcdllfdaaTree7
import Derived.Deep.Slices
import Derived.ChangeSame
import Derived.WideShapes
import Derived.OpenShut
namespace Go.Proofs.Ythpgdipcdllfdaa
open Go.RowKit Go.ChangeShapes Go.WideShapes Go.Deep
/-- A net that came in: its nodes, each with its slice of ports. -/
def IsNodes (w : World) (v : Value) (L : List (Node × Value)) : Prop := ∃ A n cap, v = .slice A n cap ∧ L.length = n ∧ n ≤ cap ∧ n ≤ 9223372036854775807 ∧ NodesIn w w.heap.size A L
section
variable {H : Type} {enc : TypeId × Value → H} {w : World} {base : Nat} {sp : Nat → Bool} {hd : Bool}
theorem u8_of {n : Int} (h : (Lit.int .u8 n).wf = true) : ∃ b : UInt8, n = b.toNat := by
  have h2 := bounds_u8 h
  refine ⟨UInt8.ofNat n.toNat, ?_⟩
  rw [UInt8.toNat_ofNat']
  omega
theorem take_one {cs : List Value} {i : Nat} {v : Value} (h : (cs.drop i).take 1 = [v]) : cs[i]? = some v := by
  have : ((cs.drop i).take 1)[0]? = some v := by rw [h]; rfl
  rw [List.getElem?_take_of_lt (by omega), List.getElem?_drop] at this
  simpa using this
theorem list_ext_at {l m : List Value} (hl : l.length = m.length) (h : ∀ i, i < m.length → l[i]? = m[i]?) : l = m := by
  apply List.ext_getElem? 
  intro i
  by_cases hi : i < m.length
  · exact h i hi
  · rw [List.getElem?_eq_none (by omega), List.getElem?_eq_none (by omega)]
theorem int_at {P : Program} {fuel : Nat} {e : TypeId} {k : IntKind} {cs : List Value} {i : Nat} {x : DataW H × List MemPlace} (hu : P.underlying e = some (.int k)) (h : DataW.trod enc P w base sp hd fuel e ((cs.drop i).take 1) = some x) : ∃ n, cs[i]? = some (.int k n) ∧ (Lit.int k n).wf = true := by
  obtain ⟨n, h1, _, h2⟩ := DataW.trod_int hu h
  exact ⟨n, take_one h1, h2⟩
theorem c1 : Try.prog.cellsOf 5 = 1 := by kernel_rfl
theorem c3 : Try.prog.cellsOf 3 = 1 := by kernel_rfl
theorem cA : Try.prog.cellsOf 27 = 6 := by kernel_rfl
theorem cB : Try.prog.cellsOf 29 = 8 := by kernel_rfl
theorem cP : Try.prog.cellsOf 35 = 2 := by kernel_rfl
theorem cM : Try.prog.cellsOf 37 = 4 := by kernel_rfl
theorem cN : Try.prog.cellsOf 32 = 9 := by kernel_rfl
theorem cS : Try.prog.cellsOf 30 = 1 := by kernel_rfl
set_option maxRecDepth 100000 in
theorem trod_addr {fuel : Nat} {cs : List Value} {x : DataW H × List MemPlace} (h : DataW.trod enc Try.prog w base sp hd fuel 27 cs = some x) : ∃ a : Ad, cs = a.vals := by
  obtain ⟨xs, n, _, _, hl, hxl, hx⟩ := DataW.trod_array Try.underlying27 h
  rw [cA] at hl
  rw [c1] at hx
  have at_ : ∀ i, i < 6 → ∃ b : UInt8, cs[i]? = some (.int .u8 b.toNat) := fun i hi => by
    have h1 := hx i hi
    rw [List.getElem?_eq_getElem (by omega), Nat.mul_one] at h1
    obtain ⟨n, h2, h3⟩ := int_at Try.underlying5 h1
    obtain ⟨b, rfl⟩ := u8_of h3
    exact ⟨b, h2⟩
  obtain ⟨b0, h0⟩ := at_ 0 (by omega)
  obtain ⟨b1, h1⟩ := at_ 1 (by omega)
  obtain ⟨b2, h2⟩ := at_ 2 (by omega)
  obtain ⟨b3, h3⟩ := at_ 3 (by omega)
  obtain ⟨b4, h4⟩ := at_ 4 (by omega)
  obtain ⟨b5, h5⟩ := at_ 5 (by omega)
  refine ⟨⟨b0, b1, b2, b3, b4, b5⟩, list_ext_at hl fun i hi => ?_⟩
  have hi' : i < 6 := hi
  match i, hi' with
  | 0, _ => exact h0
  | 1, _ => exact h1
  | 2, _ => exact h2
  | 3, _ => exact h3
  | 4, _ => exact h4
  | 5, _ => exact h5
set_option maxRecDepth 100000 in
theorem trod_bridge {fuel : Nat} {cs : List Value} {x : DataW H × List MemPlace} (h : DataW.trod enc Try.prog w base sp hd fuel 29 cs = some x) : ∃ b : Br, cs = b.vals := by
  obtain ⟨xs, n, _, _, hl, hxl, hx⟩ := DataW.trod_struct Try.underlying29 h
  rw [cB] at hl
  have hxl : xs.length = 3 := hxl
  have h0 : DataW.trod enc Try.prog w base sp hd n 3 ((cs.drop 0).take (Try.prog.cellsOf 3)) = xs[0]? := hx 0 _ rfl
  have h1 : DataW.trod enc Try.prog w base sp hd n 3 ((cs.drop 1).take (Try.prog.cellsOf 3)) = xs[1]? := hx 1 _ rfl
  have h2 : DataW.trod enc Try.prog w base sp hd n 27 ((cs.drop 2).take (Try.prog.cellsOf 27)) = xs[2]? := hx 2 _ rfl
  rw [List.getElem?_eq_getElem (by omega)] at h0 h1 h2
  rw [c3] at h0 h1
  rw [cA] at h2
  obtain ⟨n0, h0, _⟩ := int_at Try.underlying3 h0
  obtain ⟨n1, h1, _⟩ := int_at Try.underlying3 h1
  obtain ⟨a, h2⟩ := trod_addr h2
  refine ⟨⟨n0, n1, a⟩, ?_⟩
  match cs, hl with
  | c0 :: c1 :: r, hl =>
    have hr : r.length = 6 := by simpa using hl
    simp only [List.getElem?_cons_zero, List.getElem?_cons_succ, Option.some.injEq] at h0 h1
    have h2' : r.take 6 = a.vals := h2
    rw [List.take_of_length_le (by omega)] at h2'
    rw [h0, h1, h2']; rfl
set_option maxRecDepth 100000 in
theorem trod_port {fuel : Nat} {cs : List Value} {x : DataW H × List MemPlace} (h : DataW.trod enc Try.prog w base sp hd fuel 35 cs = some x) : ∃ b : Pt, cs = b.vals := by
  obtain ⟨xs, n, _, _, hl, hxl, hx⟩ := DataW.trod_struct Try.underlying35 h
  rw [cP] at hl
  have hxl : xs.length = 2 := hxl
  have h0 : DataW.trod enc Try.prog w base sp hd n 3 ((cs.drop 0).take (Try.prog.cellsOf 3)) = xs[0]? := hx 0 _ rfl
  have h1 : DataW.trod enc Try.prog w base sp hd n 3 ((cs.drop 1).take (Try.prog.cellsOf 3)) = xs[1]? := hx 1 _ rfl
  rw [List.getElem?_eq_getElem (by omega)] at h0 h1
  rw [c3] at h0 h1
  obtain ⟨n0, h0, _⟩ := int_at Try.underlying3 h0
  obtain ⟨n1, h1, _⟩ := int_at Try.underlying3 h1
  refine ⟨⟨n0, n1⟩, ?_⟩
  match cs, hl with
  | [c0, c1], _ =>
    simp only [List.getElem?_cons_zero, List.getElem?_cons_succ, Option.some.injEq] at h0 h1
    rw [h0, h1]; rfl
set_option maxRecDepth 100000 in
theorem trod_member {fuel : Nat} {cs : List Value} {x : DataW H × List MemPlace} (h : DataW.trod enc Try.prog w base sp hd fuel 37 cs = some x) : ∃ b : Mem, cs = b.vals := by
  obtain ⟨xs, n, _, _, hl, hxl, hx⟩ := DataW.trod_struct Try.underlying37 h
  rw [cM] at hl
  have hxl : xs.length = 3 := hxl
  have h0 : DataW.trod enc Try.prog w base sp hd n 35 ((cs.drop 0).take (Try.prog.cellsOf 35)) = xs[0]? := hx 0 _ rfl
  have h1 : DataW.trod enc Try.prog w base sp hd n 3 ((cs.drop 2).take (Try.prog.cellsOf 3)) = xs[1]? := hx 1 _ rfl
  have h2 : DataW.trod enc Try.prog w base sp hd n 3 ((cs.drop 3).take (Try.prog.cellsOf 3)) = xs[2]? := hx 2 _ rfl
  rw [List.getElem?_eq_getElem (by omega)] at h0 h1 h2
  rw [cP] at h0
  rw [c3] at h1 h2
  obtain ⟨p, h0⟩ := trod_port h0
  obtain ⟨n1, h1, _⟩ := int_at Try.underlying3 h1
  obtain ⟨n2, h2, _⟩ := int_at Try.underlying3 h2
  refine ⟨⟨p, n1, n2⟩, ?_⟩
  match cs, hl with
  | [c0, c1, c2, c3], _ =>
    simp only [List.getElem?_cons_zero, List.getElem?_cons_succ, Option.some.injEq] at h1 h2
    have h0' : [c0, c1] = p.vals := h0
    show [c0, c1] ++ [c2, c3] = _
    rw [h0', h1, h2]; rfl
/-- A slice whose elements read: its rows. -/
theorem slice_rows {α : Type} [Inhabited α] {t e : TypeId} {fuel : Nat} {cs : List Value} {x : DataW H × List MemPlace} {P : Program} (ht : P.underlying t = some (.slice e)) {s : Nat} (hs : P.cellsOf e = s) (h0 : 0 < s) (vals : α → List Value)
    (Q : α → Prop) (he : ∀ (m : Nat) (cs : List Value) (y : DataW H × List MemPlace), DataW.trod enc P w base sp hd m e cs = some y → ∃ a, cs = vals a ∧ Q a)
    (h : DataW.trod enc P w base sp hd fuel t cs = some x) :
    ∃ (A : Option Addr) (L : List α) (cap : Nat), cs = [.slice A L.length cap] ∧ L.length ≤ cap ∧ L.length ≤ 9223372036854775807 ∧ (∀ a ∈ L, Q a) ∧ SlRow w w.heap.size s A (L.map vals) := by
  rcases open_slice ht h with ⟨e1, _⟩ | ⟨a, len, cap, m, n, D, Pl, e1, _, hl, hm, hmm, _, hx⟩
  · exact ⟨none, [], 0, e1, by simp, by simp, by simp, fun hn => by simp at hn⟩
  · have hlm : len ≤ m := by rw [hmm]; split <;> omega
    obtain ⟨f, hf⟩ := choose_lt (n := len) (p := fun i (y : α) => w.cells? base (a.add (i * s)) s = some (vals y) ∧ Q y) (fun i hi => by
      obtain ⟨cs', h1, h2⟩ := hx i (by omega)
      rw [hs] at h1
      obtain ⟨y, rfl, hq⟩ := he _ _ _ h2
      exact ⟨y, h1, hq⟩)
    have hm' : cap ≤ 9223372036854775807 := by unfold maxLen at hm; omega
    refine ⟨some a, (List.range len).map f, cap, by simpa using e1, by simpa using hl, by simp; omega, ?_, ?_⟩
    · intro y hy
      obtain ⟨i, hi, rfl⟩ := List.mem_map.1 hy
      exact (hf i (by simpa using hi)).2
    · intro hn
      have hn0 : 0 < len := by simpa using hn
      obtain ⟨_, l1, h1⟩ := World.cells?_some (hf 0 hn0).1
      have h2 := h1 0 h0
      rw [Nat.zero_mul, show (a.add 0).add 0 = a from rfl, List.getElem?_eq_getElem (by omega)] at h2
      obtain ⟨g, o, spot⟩ := a
      have hsp : spot = none := by
        cases spot with
        | none => rfl
        | some b =>
          unfold World.cell? at h2
          split at h2
          · simp at h2
          · cases h2
      subst hsp
      have hg : g < w.heap.size := by
        rcases Nat.lt_or_ge g w.heap.size with hlt | hge
        · exact hlt
        · rw [World.cell?, Array.getElem?_eq_none hge] at h2; cases h2
      refine ⟨g, o, rfl, hg, ?_⟩
      intro k hk j u hj
      simp only [List.length_map, List.length_range] at hk
      simp only [List.getElem_map, List.getElem_range] at hj
      obtain ⟨_, h3, h4⟩ := World.cells?_some (hf k hk).1
      have hjl : j < s := by
        have := (List.getElem?_eq_some_iff.1 hj).1
        rw [h3] at this; exact this
      have := h4 j hjl
      rw [Addr.add_mid, Addr.add_mid] at this
      rw [this, hj]
theorem trod_members {fuel : Nat} {cs : List Value} {x : DataW H × List MemPlace} (h : DataW.trod enc Try.prog w base sp hd fuel 30 cs = some x) :
    ∃ (sv : Value) (L : List Mem), cs = [sv] ∧ MemsIn w w.heap.size sv L := by
  obtain ⟨A, L, cap, e, hc, _, _, hr⟩ := slice_rows Try.underlying30 cM (by omega) Mem.vals (fun _ => True) (fun m cs y h => by
    obtain ⟨b, e⟩ := trod_member h
    exact ⟨b, e, trivial⟩) h
  exact ⟨_, L, e, A, cap, rfl, hc, hr⟩
set_option maxRecDepth 100000 in
theorem trod_node {fuel : Nat} {cs : List Value} {x : DataW H × List MemPlace} (h : DataW.trod enc Try.prog w base sp hd fuel 32 cs = some x) : ∃ y : Node × Value, cs = y.1.vals y.2 ∧ MemsIn w w.heap.size y.2 y.1.ports := by
  obtain ⟨xs, n, _, _, hl, hxl, hx⟩ := DataW.trod_struct Try.underlying32 h
  rw [cN] at hl
  have hxl : xs.length = 2 := hxl
  have h0 : DataW.trod enc Try.prog w base sp hd n 29 ((cs.drop 0).take (Try.prog.cellsOf 29)) = xs[0]? := hx 0 _ rfl
  have h1 : DataW.trod enc Try.prog w base sp hd n 30 ((cs.drop 8).take (Try.prog.cellsOf 30)) = xs[1]? := hx 1 _ rfl
  rw [List.getElem?_eq_getElem (by omega)] at h0 h1
  rw [cB] at h0
  rw [cS] at h1
  obtain ⟨b, h0⟩ := trod_bridge h0
  obtain ⟨sv, L, h1, hm⟩ := trod_members h1
  refine ⟨(⟨b, L⟩, sv), ?_, hm⟩
  have e : cs = cs.take 8 ++ cs.drop 8 := (List.take_append_drop 8 cs).symm
  have e8 : cs.drop 8 = [sv] := by
    rw [← h1, List.take_of_length_le (by simp; omega)]
  rw [e, e8]
  have h0' : cs.take 8 = b.vals := h0
  rw [h0']; rfl
end
set_option maxRecDepth 100000 in
theorem open_nodes {H : Type} {enc : TypeId × Value → H} {w : World} {r : Reach} {base : Nat} {b0 : Nat} {sp : Nat → Bool} {hd : Bool} {v : Value} {d : DataW H} {ps : List MemPlace}
    (hval : Value.okWide Try.prog w r base 22 v) (h : DataW.Trod enc Try.prog w b0 sp hd 22 v d ps) : ∃ L, IsNodes w v L := by
  obtain ⟨fuel, h⟩ := h
  obtain ⟨A, L, cap, e, hc, hm, hq, hr⟩ := slice_rows Try.underlying22 cN (by omega) (fun x : Node × Value => x.1.vals x.2) (fun x => MemsIn w w.heap.size x.2 x.1.ports) (fun m cs y h => trod_node h) h
  have hv : v = .slice A L.length cap := by
    unfold Value.okWide at hval
    rw [Try.underlying22] at hval
    simp only at hval
    unfold Cell.okWide Cell.ok at hval
    rw [Try.underlying22] at hval
    cases v with
    | slice A' n' c' => simpa [Value.cells] using e
    | _ => exact hval.elim
  exact ⟨L, A, L.length, cap, hv, rfl, hc, hm, hr, hq⟩
end Go.Proofs.Ythpgdipcdllfdaa

/- Arguments that came in, opened: numbers, slices of rows. Over any program. Opener: api.Mst. (Printed by tools/mkopmst.py.) The law MstpBack. (Printed by tools/mkmsta.py.) -/
import Derived.Test.YteibhcocldihbaaDoorZS2
import Derived.Deep.Slices
import Derived.ChangeSame
import Derived.WideShapes
import Derived.OpenShut
import Derived.Test.YteibhcocldihbaaDoorZS6
import Derived.Test.YteibhcocldihbaaDoorZS8
import Derived.Test.YteibhcocldihbaaDoorZS10
import Derived.Test.YteibhcocldihbaaDoorTell2
import Derived.SizedLaws
set_option linter.all false
namespace Go.Proofs.YteibhcocldihbaaDoor
open Go.RowKit Go.ChangeShapes Go.WideShapes Go.Deep
section
variable {H : Type} {enc : TypeId × Value → H} {w : World} {base : Nat} {sp : Nat → Bool} {hd : Bool}
theorem u8_of {n : Int} (h : (Lit.int .u8 n).wf = true) : ∃ b : UInt8, n = b.toNat := by
  have h2 := bounds_u8 h
  refine ⟨UInt8.ofNat n.toNat, ?_⟩
  rw [UInt8.toNat_ofNat']
  omega
theorem take_one {cs : List Value} {i : Nat} {v : Value} (h : (cs.drop i).take 1 = [v]) : cs[i]? = some v := by
  have : ((cs.drop i).take 1)[0]? = some v := by rw [h]; rfl
  rw [List.getElem?_take_of_lt (by omega), List.getElem?_drop] at this
  simpa using this
theorem list_ext_at {l m : List Value} (hl : l.length = m.length) (h : ∀ i, i < m.length → l[i]? = m[i]?) : l = m := by
  apply List.ext_getElem? 
  intro i
  by_cases hi : i < m.length
  · exact h i hi
  · rw [List.getElem?_eq_none (by omega), List.getElem?_eq_none (by omega)]
theorem int_at {P : Program} {fuel : Nat} {e : TypeId} {k : IntKind} {cs : List Value} {i : Nat} {x : DataW H × List MemPlace} (hu : P.underlying e = some (.int k)) (h : DataW.trod enc P w base sp hd fuel e ((cs.drop i).take 1) = some x) : ∃ n, cs[i]? = some (.int k n) ∧ (Lit.int k n).wf = true := by
  obtain ⟨n, h1, _, h2⟩ := DataW.trod_int hu h
  exact ⟨n, take_one h1, h2⟩
/-- A slice whose elements read: its rows. -/
theorem slice_rows {α : Type} [Inhabited α] {t e : TypeId} {fuel : Nat} {cs : List Value} {x : DataW H × List MemPlace} {P : Program} (ht : P.underlying t = some (.slice e)) {s : Nat} (hs : P.cellsOf e = s) (h0 : 0 < s) (vals : α → List Value)
    (Q : α → Prop) (he : ∀ (m : Nat) (cs : List Value) (y : DataW H × List MemPlace), DataW.trod enc P w base sp hd m e cs = some y → ∃ a, cs = vals a ∧ Q a)
    (h : DataW.trod enc P w base sp hd fuel t cs = some x) :
    ∃ (A : Option Addr) (L : List α) (cap : Nat), cs = [.slice A L.length cap] ∧ L.length ≤ cap ∧ L.length ≤ 9223372036854775807 ∧ (∀ a ∈ L, Q a) ∧ SlRow w w.heap.size s A (L.map vals) := by
  rcases open_slice ht h with ⟨e1, _⟩ | ⟨a, len, cap, m, n, D, Pl, e1, _, hl, hm, hmm, _, hx⟩
  · exact ⟨none, [], 0, e1, by simp, by simp, by simp, fun hn => by simp at hn⟩
  · have hlm : len ≤ m := by rw [hmm]; split <;> omega
    obtain ⟨f, hf⟩ := choose_lt (n := len) (p := fun i (y : α) => w.cells? base (a.add (i * s)) s = some (vals y) ∧ Q y) (fun i hi => by
      obtain ⟨cs', h1, h2⟩ := hx i (by omega)
      rw [hs] at h1
      obtain ⟨y, rfl, hq⟩ := he _ _ _ h2
      exact ⟨y, h1, hq⟩)
    have hm' : cap ≤ 9223372036854775807 := by unfold maxLen at hm; omega
    refine ⟨some a, (List.range len).map f, cap, by simpa using e1, by simpa using hl, by simp; omega, ?_, ?_⟩
    · intro y hy
      obtain ⟨i, hi, rfl⟩ := List.mem_map.1 hy
      exact (hf i (by simpa using hi)).2
    · intro hn
      have hn0 : 0 < len := by simpa using hn
      obtain ⟨_, l1, h1⟩ := World.cells?_some (hf 0 hn0).1
      have h2 := h1 0 h0
      rw [Nat.zero_mul, show (a.add 0).add 0 = a from rfl, List.getElem?_eq_getElem (by omega)] at h2
      obtain ⟨g, o, spot⟩ := a
      have hsp : spot = none := by
        cases spot with
        | none => rfl
        | some b =>
          unfold World.cell? at h2
          split at h2
          · simp at h2
          · cases h2
      subst hsp
      have hg : g < w.heap.size := by
        rcases Nat.lt_or_ge g w.heap.size with hlt | hge
        · exact hlt
        · rw [World.cell?, Array.getElem?_eq_none hge] at h2; cases h2
      refine ⟨g, o, rfl, hg, ?_⟩
      intro k hk j u hj
      simp only [List.length_map, List.length_range] at hk
      simp only [List.getElem_map, List.getElem_range] at hj
      obtain ⟨_, h3, h4⟩ := World.cells?_some (hf k hk).1
      have hjl : j < s := by
        have := (List.getElem?_eq_some_iff.1 hj).1
        rw [h3] at this; exact this
      have := h4 j hjl
      rw [Addr.add_mid, Addr.add_mid] at this
      rw [this, hj]
theorem slice_val {P : Program} {r : Reach} {base : Nat} {t e : TypeId} {w : World} {v : Value} {A : Option Addr} {n cap : Nat} (ht : P.underlying t = some (.slice e)) (hval : Value.okWide P w r base t v) (e1 : v.cells.toList = [.slice A n cap]) : v = .slice A n cap := by
  unfold Value.okWide at hval
  rw [ht] at hval
  simp only at hval
  unfold Cell.okWide Cell.ok at hval
  rw [ht] at hval
  cases v with
  | slice A' n' c' => simpa [Value.cells] using e1
  | _ => exact hval.elim
end
end Go.Proofs.YteibhcocldihbaaDoor
namespace Go.Proofs.YteibhcocldihbaaDoor
open Go.RowKit Go.ChangeShapes Go.WideShapes Go.Deep
section
variable {H : Type} {enc : TypeId × Value → H} {w : World} {base : Nat} {sp : Nat → Bool} {hd : Bool}
theorem c1 : Tryd.prog.cellsOf 5 = 1 := by kernel_rfl
theorem c3 : Tryd.prog.cellsOf 3 = 1 := by kernel_rfl
theorem cA : Tryd.prog.cellsOf 23 = 6 := by kernel_rfl
theorem cB : Tryd.prog.cellsOf 40 = 8 := by kernel_rfl
set_option maxRecDepth 100000 in
theorem trod_addr {fuel : Nat} {cs : List Value} {x : DataW H × List MemPlace} (h : DataW.trod enc Tryd.prog w base sp hd fuel 23 cs = some x) : ∃ a : Ad, cs = a.vals := by
  obtain ⟨xs, n, _, _, hl, hxl, hx⟩ := DataW.trod_array Tryd.underlying23 h
  rw [cA] at hl
  rw [c1] at hx
  have at_ : ∀ i, i < 6 → ∃ b : UInt8, cs[i]? = some (.int .u8 b.toNat) := fun i hi => by
    have h1 := hx i hi
    rw [List.getElem?_eq_getElem (by omega), Nat.mul_one] at h1
    obtain ⟨n, h2, h3⟩ := int_at Tryd.underlying5 h1
    obtain ⟨b, rfl⟩ := u8_of h3
    exact ⟨b, h2⟩
  obtain ⟨b0, h0⟩ := at_ 0 (by omega)
  obtain ⟨b1, h1⟩ := at_ 1 (by omega)
  obtain ⟨b2, h2⟩ := at_ 2 (by omega)
  obtain ⟨b3, h3⟩ := at_ 3 (by omega)
  obtain ⟨b4, h4⟩ := at_ 4 (by omega)
  obtain ⟨b5, h5⟩ := at_ 5 (by omega)
  refine ⟨⟨b0, b1, b2, b3, b4, b5⟩, list_ext_at hl fun i hi => ?_⟩
  have hi' : i < 6 := hi
  match i, hi' with
  | 0, _ => exact h0
  | 1, _ => exact h1
  | 2, _ => exact h2
  | 3, _ => exact h3
  | 4, _ => exact h4
  | 5, _ => exact h5
set_option maxRecDepth 100000 in
theorem trod_bridge {fuel : Nat} {cs : List Value} {x : DataW H × List MemPlace} (h : DataW.trod enc Tryd.prog w base sp hd fuel 40 cs = some x) : ∃ b : Br, cs = b.vals := by
  obtain ⟨xs, n, _, _, hl, hxl, hx⟩ := DataW.trod_struct Tryd.underlying40 h
  rw [cB] at hl
  have hxl : xs.length = 3 := hxl
  have h0 : DataW.trod enc Tryd.prog w base sp hd n 3 ((cs.drop 0).take (Tryd.prog.cellsOf 3)) = xs[0]? := hx 0 _ rfl
  have h1 : DataW.trod enc Tryd.prog w base sp hd n 3 ((cs.drop 1).take (Tryd.prog.cellsOf 3)) = xs[1]? := hx 1 _ rfl
  have h2 : DataW.trod enc Tryd.prog w base sp hd n 23 ((cs.drop 2).take (Tryd.prog.cellsOf 23)) = xs[2]? := hx 2 _ rfl
  rw [List.getElem?_eq_getElem (by omega)] at h0 h1 h2
  rw [c3] at h0 h1
  rw [cA] at h2
  obtain ⟨n0, h0, _⟩ := int_at Tryd.underlying3 h0
  obtain ⟨n1, h1, _⟩ := int_at Tryd.underlying3 h1
  obtain ⟨a, h2⟩ := trod_addr h2
  refine ⟨⟨n0, n1, a⟩, ?_⟩
  match cs, hl with
  | c0 :: c1 :: r, hl =>
    have hr : r.length = 6 := by simpa using hl
    simp only [List.getElem?_cons_zero, List.getElem?_cons_succ, Option.some.injEq] at h0 h1
    have h2' : r.take 6 = a.vals := h2
    rw [List.take_of_length_le (by omega)] at h2'
    rw [h0, h1, h2']; rfl
theorem cBo : Tryd.prog.cellsOf 4 = 1 := by kernel_rfl
theorem cFl : Tryd.prog.cellsOf 38 = 7 := by kernel_rfl
theorem cIn : Tryd.prog.cellsOf 104 = 19 := by kernel_rfl
theorem cIs : Tryd.prog.cellsOf 45 = 1 := by kernel_rfl
set_option maxRecDepth 100000 in
theorem trod_flags {fuel : Nat} {cs : List Value} {x : DataW H × List MemPlace} (h : DataW.trod enc Tryd.prog w base sp hd fuel 38 cs = some x) : ∃ b : Fl, cs = b.vals := by
  obtain ⟨xs, n, _, _, hl, hxl, hx⟩ := DataW.trod_struct Tryd.underlying38 h
  rw [cFl] at hl
  have hxl : xs.length = 7 := hxl
  have h0 : DataW.trod enc Tryd.prog w base sp hd n 4 ((cs.drop 0).take (Tryd.prog.cellsOf 4)) = xs[0]? := hx 0 _ rfl
  have h1 : DataW.trod enc Tryd.prog w base sp hd n 4 ((cs.drop 1).take (Tryd.prog.cellsOf 4)) = xs[1]? := hx 1 _ rfl
  have h2 : DataW.trod enc Tryd.prog w base sp hd n 3 ((cs.drop 2).take (Tryd.prog.cellsOf 3)) = xs[2]? := hx 2 _ rfl
  have h3 : DataW.trod enc Tryd.prog w base sp hd n 4 ((cs.drop 3).take (Tryd.prog.cellsOf 4)) = xs[3]? := hx 3 _ rfl
  have h4 : DataW.trod enc Tryd.prog w base sp hd n 4 ((cs.drop 4).take (Tryd.prog.cellsOf 4)) = xs[4]? := hx 4 _ rfl
  have h5 : DataW.trod enc Tryd.prog w base sp hd n 4 ((cs.drop 5).take (Tryd.prog.cellsOf 4)) = xs[5]? := hx 5 _ rfl
  have h6 : DataW.trod enc Tryd.prog w base sp hd n 4 ((cs.drop 6).take (Tryd.prog.cellsOf 4)) = xs[6]? := hx 6 _ rfl
  rw [List.getElem?_eq_getElem (by omega)] at h0 h1 h2 h3 h4 h5 h6
  rw [cBo] at h0 h1 h3 h4 h5 h6
  rw [c3] at h2
  obtain ⟨b0, h0, _⟩ := DataW.trod_bool Tryd.underlying4 h0
  have h0 := take_one h0
  obtain ⟨b1, h1, _⟩ := DataW.trod_bool Tryd.underlying4 h1
  have h1 := take_one h1
  obtain ⟨b2, h2, _⟩ := int_at Tryd.underlying3 h2
  obtain ⟨b3, h3, _⟩ := DataW.trod_bool Tryd.underlying4 h3
  have h3 := take_one h3
  obtain ⟨b4, h4, _⟩ := DataW.trod_bool Tryd.underlying4 h4
  have h4 := take_one h4
  obtain ⟨b5, h5, _⟩ := DataW.trod_bool Tryd.underlying4 h5
  have h5 := take_one h5
  obtain ⟨b6, h6, _⟩ := DataW.trod_bool Tryd.underlying4 h6
  have h6 := take_one h6
  refine ⟨⟨b0, b1, b2, b3, b4, b5, b6⟩, ?_⟩
  match cs, hl with
  | [x0, x1, x2, x3, x4, x5, x6], _ =>
    simp only [List.getElem?_cons_zero, List.getElem?_cons_succ, Option.some.injEq] at h0 h1 h2 h3 h4 h5 h6
    rw [h0, h1, h2, h3, h4, h5, h6]; rfl
theorem split19 {cs : List Value} (h : cs.length = 19) : cs = (cs.drop 0).take 7 ++ ((cs.drop 7).take 8 ++ ((cs.drop 15).take 1 ++ ((cs.drop 16).take 1 ++ ((cs.drop 17).take 1 ++ (cs.drop 18).take 1)))) := by
  match cs, h with
  | [_, _, _, _, _, _, _, _, _, _, _, _, _, _, _, _, _, _, _], _ => rfl
set_option maxRecDepth 100000 in
theorem trod_inst {fuel : Nat} {cs : List Value} {x : DataW H × List MemPlace} (h : DataW.trod enc Tryd.prog w base sp hd fuel 104 cs = some x) : ∃ b : Ins, cs = b.vals := by
  obtain ⟨xs, n, _, _, hl, hxl, hx⟩ := DataW.trod_struct Tryd.underlying104 h
  rw [cIn] at hl
  have hxl : xs.length = 6 := hxl
  have h0 : DataW.trod enc Tryd.prog w base sp hd n 38 ((cs.drop 0).take (Tryd.prog.cellsOf 38)) = xs[0]? := hx 0 _ rfl
  have h1 : DataW.trod enc Tryd.prog w base sp hd n 40 ((cs.drop 7).take (Tryd.prog.cellsOf 40)) = xs[1]? := hx 1 _ rfl
  have h2 : DataW.trod enc Tryd.prog w base sp hd n 3 ((cs.drop 15).take (Tryd.prog.cellsOf 3)) = xs[2]? := hx 2 _ rfl
  have h3 : DataW.trod enc Tryd.prog w base sp hd n 3 ((cs.drop 16).take (Tryd.prog.cellsOf 3)) = xs[3]? := hx 3 _ rfl
  have h4 : DataW.trod enc Tryd.prog w base sp hd n 3 ((cs.drop 17).take (Tryd.prog.cellsOf 3)) = xs[4]? := hx 4 _ rfl
  have h5 : DataW.trod enc Tryd.prog w base sp hd n 3 ((cs.drop 18).take (Tryd.prog.cellsOf 3)) = xs[5]? := hx 5 _ rfl
  rw [List.getElem?_eq_getElem (by omega)] at h0 h1 h2 h3 h4 h5
  rw [cFl] at h0
  rw [cB] at h1
  rw [c3] at h2 h3 h4 h5
  obtain ⟨f0, h0⟩ := trod_flags h0
  obtain ⟨b1, h1⟩ := trod_bridge h1
  obtain ⟨n2, h2, _, _⟩ := DataW.trod_int Tryd.underlying3 h2
  obtain ⟨n3, h3, _, _⟩ := DataW.trod_int Tryd.underlying3 h3
  obtain ⟨n4, h4, _, _⟩ := DataW.trod_int Tryd.underlying3 h4
  obtain ⟨n5, h5, _, _⟩ := DataW.trod_int Tryd.underlying3 h5
  refine ⟨⟨f0, b1, n2, n3, n4, n5⟩, ?_⟩
  have := split19 hl
  rw [h0, h1, h2, h3, h4, h5] at this
  exact this
end
/-- A BPDU of many trees that came in. -/
def IsMst (w : World) (v : Value) (m : Mst) : Prop := ∃ A cap, v = .agg (m.vals (.slice A m.insts.length cap)).toArray ∧ SlRow w w.heap.size 19 A (m.insts.map Ins.vals) ∧ m.insts.length ≤ cap
set_option maxRecDepth 100000 in
theorem mst_types : Tryd.prog.cellTypes Tryd.prog.depth 47 = some [3, 4, 4, 3, 4, 4, 4, 4, 3, 3, 5, 5, 5, 5, 5, 5, 3, 3, 3, 5, 5, 5, 5, 5, 5, 3, 3, 3, 3, 3, 3, 9, 3, 9, 3, 3, 3, 5, 5, 5, 5, 5, 5, 3, 45] := by kernel_rfl
theorem mst_struct : ∃ fs, Tryd.prog.underlying 47 = some (.struct fs) := ⟨_, Tryd.underlying47⟩
set_option maxRecDepth 100000 in
set_option maxHeartbeats 8000000 in
theorem open_mst {H : Type} {enc : TypeId × Value → H} {w : World} {r : Reach} {base : Nat} {b0 : Nat} {sp : Nat → Bool} {hd : Bool} {v : Value} {d : DataW H} {ps : List MemPlace}
    (h : Value.okWide Tryd.prog w r base 47 v) (ht : DataW.Trod enc Tryd.prog w b0 sp hd 47 v d ps) : ∃ m, IsMst w v m := by
  obtain ⟨cs, rfl, hl, hc⟩ := flatV (.inl mst_struct) mst_types (by kernel_rfl) h
  obtain ⟨fuel, ht⟩ := ht
  have ht : DataW.trod enc Tryd.prog w b0 sp hd fuel 47 cs = some (d, ps) := by simpa [Value.cells] using ht
  obtain ⟨xs, n, _, _, hl2, hxl, hx⟩ := DataW.trod_struct Tryd.underlying47 ht
  have hxl : xs.length = 8 := hxl
  have hs : DataW.trod enc Tryd.prog w b0 sp hd n 45 ((cs.drop 44).take (Tryd.prog.cellsOf 45)) = xs[7]? := hx 7 _ rfl
  rw [List.getElem?_eq_getElem (by omega), cIs] at hs
  obtain ⟨A, L, cap, e, hcap, _, _, hr⟩ := slice_rows (α := Ins) Tryd.underlying45 cIn (by omega) Ins.vals (fun _ => True) (fun m cs y h => by
    obtain ⟨b, e⟩ := trod_inst h
    exact ⟨b, e, trivial⟩) hs
  have hsl := take_one e
  clear hx hs e hl2
  match cs, hl with
  | yy0 :: yy1 :: yy2 :: yy3 :: yy4 :: yy5 :: yy6 :: yy7 :: yy8 :: yy9 :: yy10 :: yy11 :: yy12 :: yy13 :: yy14 :: yy15 :: yy16 :: yy17 :: yy18 :: yy19 :: yy20 :: yy21 :: rest, hl =>
  have hl' : rest.length = 23 := by
    have h' : (rest.length + 22 : Nat) = 45 := hl
    omega
  match rest, hl' with
  | [yy22, yy23, yy24, yy25, yy26, yy27, yy28, yy29, yy30, yy31, yy32, yy33, yy34, yy35, yy36, yy37, yy38, yy39, yy40, yy41, yy42, yy43, yy44], _ =>
    obtain rfl : yy44 = .slice A L.length cap := Option.some.inj hsl
    obtain ⟨x0, e0, k0⟩ := hc 0 3 rfl
    obtain ⟨x1, e1, k1⟩ := hc 1 4 rfl
    obtain ⟨x2, e2, k2⟩ := hc 2 4 rfl
    obtain ⟨x3, e3, k3⟩ := hc 3 3 rfl
    obtain ⟨x4, e4, k4⟩ := hc 4 4 rfl
    obtain ⟨x5, e5, k5⟩ := hc 5 4 rfl
    obtain ⟨x6, e6, k6⟩ := hc 6 4 rfl
    obtain ⟨x7, e7, k7⟩ := hc 7 4 rfl
    obtain ⟨x8, e8, k8⟩ := hc 8 3 rfl
    obtain ⟨x9, e9, k9⟩ := hc 9 3 rfl
    obtain ⟨x10, e10, k10⟩ := hc 10 5 rfl
    obtain ⟨x11, e11, k11⟩ := hc 11 5 rfl
    obtain ⟨x12, e12, k12⟩ := hc 12 5 rfl
    obtain ⟨x13, e13, k13⟩ := hc 13 5 rfl
    obtain ⟨x14, e14, k14⟩ := hc 14 5 rfl
    obtain ⟨x15, e15, k15⟩ := hc 15 5 rfl
    obtain ⟨x16, e16, k16⟩ := hc 16 3 rfl
    obtain ⟨x17, e17, k17⟩ := hc 17 3 rfl
    obtain ⟨x18, e18, k18⟩ := hc 18 3 rfl
    obtain ⟨x19, e19, k19⟩ := hc 19 5 rfl
    obtain ⟨x20, e20, k20⟩ := hc 20 5 rfl
    obtain ⟨x21, e21, k21⟩ := hc 21 5 rfl
    obtain ⟨x22, e22, k22⟩ := hc 22 5 rfl
    obtain ⟨x23, e23, k23⟩ := hc 23 5 rfl
    obtain ⟨x24, e24, k24⟩ := hc 24 5 rfl
    obtain ⟨x25, e25, k25⟩ := hc 25 3 rfl
    obtain ⟨x26, e26, k26⟩ := hc 26 3 rfl
    obtain ⟨x27, e27, k27⟩ := hc 27 3 rfl
    obtain ⟨x28, e28, k28⟩ := hc 28 3 rfl
    obtain ⟨x29, e29, k29⟩ := hc 29 3 rfl
    obtain ⟨x30, e30, k30⟩ := hc 30 3 rfl
    obtain ⟨x31, e31, k31⟩ := hc 31 9 rfl
    obtain ⟨x32, e32, k32⟩ := hc 32 3 rfl
    obtain ⟨x33, e33, k33⟩ := hc 33 9 rfl
    obtain ⟨x34, e34, k34⟩ := hc 34 3 rfl
    obtain ⟨x35, e35, k35⟩ := hc 35 3 rfl
    obtain ⟨x36, e36, k36⟩ := hc 36 3 rfl
    obtain ⟨x37, e37, k37⟩ := hc 37 5 rfl
    obtain ⟨x38, e38, k38⟩ := hc 38 5 rfl
    obtain ⟨x39, e39, k39⟩ := hc 39 5 rfl
    obtain ⟨x40, e40, k40⟩ := hc 40 5 rfl
    obtain ⟨x41, e41, k41⟩ := hc 41 5 rfl
    obtain ⟨x42, e42, k42⟩ := hc 42 5 rfl
    obtain ⟨x43, e43, k43⟩ := hc 43 3 rfl
    obtain rfl : yy0 = x0 := Option.some.inj e0
    obtain rfl : yy1 = x1 := Option.some.inj e1
    obtain rfl : yy2 = x2 := Option.some.inj e2
    obtain rfl : yy3 = x3 := Option.some.inj e3
    obtain rfl : yy4 = x4 := Option.some.inj e4
    obtain rfl : yy5 = x5 := Option.some.inj e5
    obtain rfl : yy6 = x6 := Option.some.inj e6
    obtain rfl : yy7 = x7 := Option.some.inj e7
    obtain rfl : yy8 = x8 := Option.some.inj e8
    obtain rfl : yy9 = x9 := Option.some.inj e9
    obtain rfl : yy10 = x10 := Option.some.inj e10
    obtain rfl : yy11 = x11 := Option.some.inj e11
    obtain rfl : yy12 = x12 := Option.some.inj e12
    obtain rfl : yy13 = x13 := Option.some.inj e13
    obtain rfl : yy14 = x14 := Option.some.inj e14
    obtain rfl : yy15 = x15 := Option.some.inj e15
    obtain rfl : yy16 = x16 := Option.some.inj e16
    obtain rfl : yy17 = x17 := Option.some.inj e17
    obtain rfl : yy18 = x18 := Option.some.inj e18
    obtain rfl : yy19 = x19 := Option.some.inj e19
    obtain rfl : yy20 = x20 := Option.some.inj e20
    obtain rfl : yy21 = x21 := Option.some.inj e21
    obtain rfl : yy22 = x22 := Option.some.inj e22
    obtain rfl : yy23 = x23 := Option.some.inj e23
    obtain rfl : yy24 = x24 := Option.some.inj e24
    obtain rfl : yy25 = x25 := Option.some.inj e25
    obtain rfl : yy26 = x26 := Option.some.inj e26
    obtain rfl : yy27 = x27 := Option.some.inj e27
    obtain rfl : yy28 = x28 := Option.some.inj e28
    obtain rfl : yy29 = x29 := Option.some.inj e29
    obtain rfl : yy30 = x30 := Option.some.inj e30
    obtain rfl : yy31 = x31 := Option.some.inj e31
    obtain rfl : yy32 = x32 := Option.some.inj e32
    obtain rfl : yy33 = x33 := Option.some.inj e33
    obtain rfl : yy34 = x34 := Option.some.inj e34
    obtain rfl : yy35 = x35 := Option.some.inj e35
    obtain rfl : yy36 = x36 := Option.some.inj e36
    obtain rfl : yy37 = x37 := Option.some.inj e37
    obtain rfl : yy38 = x38 := Option.some.inj e38
    obtain rfl : yy39 = x39 := Option.some.inj e39
    obtain rfl : yy40 = x40 := Option.some.inj e40
    obtain rfl : yy41 = x41 := Option.some.inj e41
    obtain rfl : yy42 = x42 := Option.some.inj e42
    obtain rfl : yy43 = x43 := Option.some.inj e43
    obtain ⟨c0, rfl, _⟩ := cell_int Tryd.underlying3 k0
    obtain ⟨c1, rfl⟩ := cell_bool Tryd.underlying4 k1
    obtain ⟨c2, rfl⟩ := cell_bool Tryd.underlying4 k2
    obtain ⟨c3, rfl, _⟩ := cell_int Tryd.underlying3 k3
    obtain ⟨c4, rfl⟩ := cell_bool Tryd.underlying4 k4
    obtain ⟨c5, rfl⟩ := cell_bool Tryd.underlying4 k5
    obtain ⟨c6, rfl⟩ := cell_bool Tryd.underlying4 k6
    obtain ⟨c7, rfl⟩ := cell_bool Tryd.underlying4 k7
    obtain ⟨c8, rfl, _⟩ := cell_int Tryd.underlying3 k8
    obtain ⟨c9, rfl, _⟩ := cell_int Tryd.underlying3 k9
    obtain ⟨n10, rfl, h10⟩ := cell_int Tryd.underlying5 k10
    obtain ⟨c10, rfl⟩ := u8_has h10
    obtain ⟨n11, rfl, h11⟩ := cell_int Tryd.underlying5 k11
    obtain ⟨c11, rfl⟩ := u8_has h11
    obtain ⟨n12, rfl, h12⟩ := cell_int Tryd.underlying5 k12
    obtain ⟨c12, rfl⟩ := u8_has h12
    obtain ⟨n13, rfl, h13⟩ := cell_int Tryd.underlying5 k13
    obtain ⟨c13, rfl⟩ := u8_has h13
    obtain ⟨n14, rfl, h14⟩ := cell_int Tryd.underlying5 k14
    obtain ⟨c14, rfl⟩ := u8_has h14
    obtain ⟨n15, rfl, h15⟩ := cell_int Tryd.underlying5 k15
    obtain ⟨c15, rfl⟩ := u8_has h15
    obtain ⟨c16, rfl, _⟩ := cell_int Tryd.underlying3 k16
    obtain ⟨c17, rfl, _⟩ := cell_int Tryd.underlying3 k17
    obtain ⟨c18, rfl, _⟩ := cell_int Tryd.underlying3 k18
    obtain ⟨n19, rfl, h19⟩ := cell_int Tryd.underlying5 k19
    obtain ⟨c19, rfl⟩ := u8_has h19
    obtain ⟨n20, rfl, h20⟩ := cell_int Tryd.underlying5 k20
    obtain ⟨c20, rfl⟩ := u8_has h20
    obtain ⟨n21, rfl, h21⟩ := cell_int Tryd.underlying5 k21
    obtain ⟨c21, rfl⟩ := u8_has h21
    obtain ⟨n22, rfl, h22⟩ := cell_int Tryd.underlying5 k22
    obtain ⟨c22, rfl⟩ := u8_has h22
    obtain ⟨n23, rfl, h23⟩ := cell_int Tryd.underlying5 k23
    obtain ⟨c23, rfl⟩ := u8_has h23
    obtain ⟨n24, rfl, h24⟩ := cell_int Tryd.underlying5 k24
    obtain ⟨c24, rfl⟩ := u8_has h24
    obtain ⟨c25, rfl, _⟩ := cell_int Tryd.underlying3 k25
    obtain ⟨c26, rfl, _⟩ := cell_int Tryd.underlying3 k26
    obtain ⟨c27, rfl, _⟩ := cell_int Tryd.underlying3 k27
    obtain ⟨c28, rfl, _⟩ := cell_int Tryd.underlying3 k28
    obtain ⟨c29, rfl, _⟩ := cell_int Tryd.underlying3 k29
    obtain ⟨c30, rfl, _⟩ := cell_int Tryd.underlying3 k30
    obtain ⟨c31, rfl, _⟩ := cell_string Tryd.underlying9 k31
    obtain ⟨c32, rfl, _⟩ := cell_int Tryd.underlying3 k32
    obtain ⟨c33, rfl, _⟩ := cell_string Tryd.underlying9 k33
    obtain ⟨c34, rfl, _⟩ := cell_int Tryd.underlying3 k34
    obtain ⟨c35, rfl, _⟩ := cell_int Tryd.underlying3 k35
    obtain ⟨c36, rfl, _⟩ := cell_int Tryd.underlying3 k36
    obtain ⟨n37, rfl, h37⟩ := cell_int Tryd.underlying5 k37
    obtain ⟨c37, rfl⟩ := u8_has h37
    obtain ⟨n38, rfl, h38⟩ := cell_int Tryd.underlying5 k38
    obtain ⟨c38, rfl⟩ := u8_has h38
    obtain ⟨n39, rfl, h39⟩ := cell_int Tryd.underlying5 k39
    obtain ⟨c39, rfl⟩ := u8_has h39
    obtain ⟨n40, rfl, h40⟩ := cell_int Tryd.underlying5 k40
    obtain ⟨c40, rfl⟩ := u8_has h40
    obtain ⟨n41, rfl, h41⟩ := cell_int Tryd.underlying5 k41
    obtain ⟨c41, rfl⟩ := u8_has h41
    obtain ⟨n42, rfl, h42⟩ := cell_int Tryd.underlying5 k42
    obtain ⟨c42, rfl⟩ := u8_has h42
    obtain ⟨c43, rfl, _⟩ := cell_int Tryd.underlying3 k43
    exact ⟨⟨⟨c0, ⟨c1, c2, c3, c4, c5, c6, c7⟩, ⟨c8, c9, ⟨c10, c11, c12, c13, c14, c15⟩⟩, c16, ⟨c17, c18, ⟨c19, c20, c21, c22, c23, c24⟩⟩, ⟨c25, c26⟩, c27, c28, c29, c30⟩, c31, c32, c33, c34, ⟨c35, c36, ⟨c37, c38, c39, c40, c41, c42⟩⟩, c43, L⟩, A, cap, rfl, hr, hcap⟩
end Go.Proofs.YteibhcocldihbaaDoor
namespace Go.Proofs.YteibhcocldihbaaDoor
open Go.RowKit
set_option maxRecDepth 100000 in
/-- How long the texts of a BPDU that came in may be. -/
theorem sized_mst {H : Type} {enc : TypeId × Value → H} {ts : List TypeId} {ds : List (DataW H)} {w : World} {b0 : Nat} {sp : Nat → Bool} {hd : Bool} {v : Value} {d : DataW H} {ps : List MemPlace} {m : Mst} {j : Nat}
    (h : (DataW.weightsEach Tryd.prog ts ds).all (· ≤ reachBytes) = true) (hj : ts[j]? = some 47) (hdj : ds[j]? = some d) (ht : DataW.Trod enc Tryd.prog w b0 sp hd 47 v d ps) (hm : IsMst w v m) :
    m.name.length ≤ 140737488355328 ∧ m.digest.length ≤ 140737488355328 := by
  obtain ⟨A, cap, rfl, _, _⟩ := hm
  obtain ⟨fuel, ht⟩ := ht
  have ht : DataW.trod enc Tryd.prog w b0 sp hd fuel 47 (m.vals (.slice A m.insts.length cap)) = some (d, ps) := by simpa [Value.cells] using ht
  obtain ⟨xs, n, _, hx0, hl2, hxl, hx⟩ := DataW.trod_struct Tryd.underlying47 ht
  have hxl : xs.length = 8 := hxl
  have cs1 : Tryd.prog.cellsOf 9 = 1 := by kernel_rfl
  have h1 : DataW.trod enc Tryd.prog w b0 sp hd n 9 (((m.vals (.slice A m.insts.length cap)).drop 31).take (Tryd.prog.cellsOf 9)) = xs[1]? := hx 1 _ rfl
  have h3 : DataW.trod enc Tryd.prog w b0 sp hd n 9 (((m.vals (.slice A m.insts.length cap)).drop 33).take (Tryd.prog.cellsOf 9)) = xs[3]? := hx 3 _ rfl
  rw [cs1] at h1 h3
  have h1 : DataW.trod enc Tryd.prog w b0 sp hd n 9 [.string ⟨m.name.toArray⟩] = xs[1]? := h1
  have h3 : DataW.trod enc Tryd.prog w b0 sp hd n 9 [.string ⟨m.digest.toArray⟩] = xs[3]? := h3
  rw [List.getElem?_eq_getElem (by omega)] at h1 h3
  obtain ⟨s1, e1, q1, _⟩ := DataW.trod_string Tryd.underlying9 h1
  obtain ⟨s3, e3, q3, _⟩ := DataW.trod_string Tryd.underlying9 h3
  have hr := reachBytes_lt
  have hd : d = .agg (xs.map (·.1)) := (Prod.mk.inj hx0).1
  have key : ∀ (i : Nat) (s : ByteArray) (l : List UInt8) (q : DataW H × List MemPlace), ([Value.string ⟨l.toArray⟩] : List Value) = [.string s] → xs[i]? = some q → q.1 = .lit (.string s.data.toList) → (Tryd.prog.fieldsOf 47).toList[i]?.map (·.type) = some 9 → l.length ≤ 140737488355328 := by
    intro i s l q e hi hq hf
    have es : s.data.toList = l := by
      have e := Value.string.inj (List.cons.inj e).1
      subst e
      rfl
    have m1 : l.length ∈ q.1.weights Tryd.prog 9 := by rw [hq, es]; simp [DataW.weights]
    have m2 : l.length ∈ DataW.weightsEach Tryd.prog ((Tryd.prog.fieldsOf 47).toList.map (·.type)) (xs.map (·.1)) := by
      refine DataW.weights_mem_each (j := i) (by rw [List.getElem?_map]; exact hf) ?_ _ m1
      rw [List.getElem?_map, hi]; rfl
    have m3 : l.length ∈ d.weights Tryd.prog 47 := by
      rw [hd]
      unfold DataW.weights
      have hu : Tryd.prog.underlying 47 = some (.struct (Tryd.prog.fieldsOf 47)) := by kernel_rfl
      rw [hu]
      exact m2
    have := List.all_eq_true.1 h _ (DataW.weights_mem_each hj hdj _ m3)
    have : l.length ≤ reachBytes := by simpa using this
    omega
  refine ⟨key 1 s1 m.name xs[1] e1 (List.getElem?_eq_getElem (by omega)) ?_ (by kernel_rfl), key 3 s3 m.digest xs[3] e3 (List.getElem?_eq_getElem (by omega)) ?_ (by kernel_rfl)⟩
  · rw [q1]
  · rw [q3]
theorem mstWrite_any (m : Mst) (A : Option Addr) (cap : Nat) (w : World) (hr : SlRow w w.heap.size 19 A (m.insts.map Ins.vals)) :
    Calls Tryd.prog 20 #[.agg (m.vals (.slice A m.insts.length cap)).toArray] w fun e w' => e = .returned (if m.okB = true then .tuple #[.string ⟨m.bytes.toArray⟩, .nilIface] else .tuple #[.string ⟨#[]⟩, .iface 32 (.int .i64 1)]) ∧ Below w.heap.size w w' := by
  cases h : m.okB
  · exact mstWrite_no m A cap w hr h
  · exact mstWrite_ok m A cap w hr h
set_option maxRecDepth 100000 in
set_option maxHeartbeats 8000000 in
theorem law_MstpBack (v0 : Value) (m : Mst) (more : List UInt8) (hmo : more.length ≤ 140737488355328) (w : World) (hv0 : IsMst w v0 m) (hsz : m.name.length ≤ 140737488355328 ∧ m.digest.length ≤ 140737488355328) (hE : ErrVar w) :
    Calls Tryd.prog 4 #[v0, .string ⟨more.toArray⟩] w fun e w' => e = .returned (.bool true) ∧ Below w.heap.size w w' := by
  obtain ⟨A, cap, rfl, hr, hcap⟩ := hv0
  obtain ⟨hs1, hs2⟩ := hsz
  have HE := Lib.hid hE
  have Hr := Lib.hid hr
  have HA : Hid (∀ W, Calls Tryd.prog 19 #[] W fun e w' => e = .returned (.bool true) ∧ Below W.heap.size W w') := Lib.hid treed_any
  have H0 := Lib.hid ((St.init w).alloc (m.vals (.slice A m.insts.length cap)) 47)
  have HSl : Hid (∀ W, Below w.heap.size w W → SlRow W W.heap.size 19 A (m.insts.map Ins.vals)) := Lib.hid (fun W hW => (Hr.out.below hW (Nat.le_refl _)).more hW.size)
  clear hE hr
  have hin := mst_in (Blk.box (H0.out.at 0 rfl))
  have hsame : Hid (∀ W A2 c2, Below w.heap.size w W → m.insts.length ≤ 80 → SlRow W W.heap.size 19 A2 (m.insts.map Ins.vals) → Calls Tryd.prog 23 #[.agg (m.vals (.slice A m.insts.length cap)).toArray, .agg (m.vals (.slice A2 m.insts.length c2)).toArray] W fun e w' => e = .returned (.bool true) ∧ Below W.heap.size W w') := Lib.hid (fun W A2 c2 hW h80 h => mstSame_yes m A A2 cap c2 W (by omega) (HSl.out W hW) h)
  have HW := Lib.hid (fun W (hW : Below w.heap.size w W) => mstWrite_any m A cap W (HSl.out W hW))
  have HR := Lib.hid (fun W (hW : Below w.heap.size w W) => mstRight_any m A cap W (HSl.out W hW))
  have C31 := Lib.hid hin.name
  have C33 := Lib.hid hin.digest
  have C44 := Lib.hid hin.insts
  clear hin
  obtain ⟨VV, hVV⟩ : ∃ VV, (m.vals (.slice A m.insts.length cap)) = VV := ⟨_, rfl⟩
  have IV : Hid ((Tryd.prog.info? 47).map (·.size) = some VV.length) := Lib.hid (by rw [← hVV]; exact info47)
  rw [hVV] at H0 HW HR hsame C31 C33 C44 ⊢
  clear hVV
  have hk := @Mst.ok_iff m
  have hbytes := fun h : m.okB = true => readMst_bytes m more h
  have hblen := fun h : m.Ok => Mst.bytes_len h
  obtain ⟨n, hn⟩ : ∃ n, m.insts.length = n := ⟨_, rfl⟩
  rw [hn] at C44 hsame hcap
  by_cases h80 : 80 < n
  · have h80i : (80 : Int) < (n : Int) := by omega
    clear hk hbytes hblen hn hsame
    go_enter Tryd.func4, Tryd.ntmps4
    go_upto_region 1 with (fail)
    generalize World.alloc _ _ = w1 at *
    go_upto_region 3 with (first
      | ((with_reducible refine (HA.out _).mono ?_)
         rintro e w2 ⟨rfl, hb2⟩
         have H2 := Lib.hid (H0.out.ext hb2)
         have HB2 := Lib.hid hb2
         clear hb2))
    have l0 : w.heap.size < w1.heap.size := (H0.out.at 0 rfl).lt
    have c44 : w2.cell? ⟨w.heap.size, 44, none⟩ = some (.slice A n cap) := (World.cell?_of_block (w := w1) (a := ⟨w.heap.size, 44, none⟩) (HB2.out.block _ l0)).trans C44.out
    go_wp2_with fail
    go_ret
    exact ⟨rfl, H2.out.below⟩
  have h80i : ¬ (80 : Int) < (n : Int) := by omega
  by_cases h300 : 300 < m.name.length + m.digest.length + more.length
  · have h300i : (300 : Int) < (m.name.length : Int) + (m.digest.length : Int) + (more.length : Int) := by omega
    clear hk hbytes hblen hn hsame
    go_enter Tryd.func4, Tryd.ntmps4
    go_upto_region 1 with (fail)
    generalize World.alloc _ _ = w1 at *
    go_upto_region 3 with (first
      | ((with_reducible refine (HA.out _).mono ?_)
         rintro e w2 ⟨rfl, hb2⟩
         have H2 := Lib.hid (H0.out.ext hb2)
         have HB2 := Lib.hid hb2
         clear hb2))
    have l0 : w.heap.size < w1.heap.size := (H0.out.at 0 rfl).lt
    have c44 : w2.cell? ⟨w.heap.size, 44, none⟩ = some (.slice A n cap) := (World.cell?_of_block (w := w1) (a := ⟨w.heap.size, 44, none⟩) (HB2.out.block _ l0)).trans C44.out
    have c31 : w2.cell? ⟨w.heap.size, 31, none⟩ = some (.string ⟨m.name.toArray⟩) := (World.cell?_of_block (w := w1) (a := ⟨w.heap.size, 31, none⟩) (HB2.out.block _ l0)).trans C31.out
    have c33 : w2.cell? ⟨w.heap.size, 33, none⟩ = some (.string ⟨m.digest.toArray⟩) := (World.cell?_of_block (w := w1) (a := ⟨w.heap.size, 33, none⟩) (HB2.out.block _ l0)).trans C33.out
    generalize m.name = NM at *
    generalize m.digest = DG at *
    go_wp2_with fail
    go_ret
    exact ⟨rfl, H2.out.below⟩
  have h300i : ¬ (300 : Int) < (m.name.length : Int) + (m.digest.length : Int) + (more.length : Int) := by omega
  cases hok : m.okB
  · rw [hok] at HW HR
    simp only [Bool.false_eq_true, if_false] at HW
    clear hk hbytes hblen hn hsame hok
    go_enter Tryd.func4, Tryd.ntmps4
    go_upto_region 1 with (fail)
    generalize World.alloc _ _ = w1 at *
    go_upto_region 3 with (first
      | ((with_reducible refine (HA.out _).mono ?_)
         rintro e w2 ⟨rfl, hb2⟩
         have H2 := Lib.hid (H0.out.ext hb2)
         have HB2 := Lib.hid hb2
         clear hb2))
    have l0 : w.heap.size < w1.heap.size := (H0.out.at 0 rfl).lt
    have c44 : w2.cell? ⟨w.heap.size, 44, none⟩ = some (.slice A n cap) := (World.cell?_of_block (w := w1) (a := ⟨w.heap.size, 44, none⟩) (HB2.out.block _ l0)).trans C44.out
    have c31 : w2.cell? ⟨w.heap.size, 31, none⟩ = some (.string ⟨m.name.toArray⟩) := (World.cell?_of_block (w := w1) (a := ⟨w.heap.size, 31, none⟩) (HB2.out.block _ l0)).trans C31.out
    have c33 : w2.cell? ⟨w.heap.size, 33, none⟩ = some (.string ⟨m.digest.toArray⟩) := (World.cell?_of_block (w := w1) (a := ⟨w.heap.size, 33, none⟩) (HB2.out.block _ l0)).trans C33.out
    generalize m.name = NM at *
    generalize m.digest = DG at *
    go_upto_region 5 with (fail)
    clear c44 c31 c33
    go_upto_region 7 with (first
      | (with_reducible refine wpList_load_rng (ty := 47) VV (by with_unfolding_all rfl) (Blk.box (H3.out.at 0 rfl)).range Tryd.underlying47 (by with_unfolding_all rfl) IV.out ?_)
      | (with_reducible refine wpList_load_rng (ty := 47) VV (by with_unfolding_all rfl) (Blk.box (H2.out.at 0 rfl)).range Tryd.underlying47 (by with_unfolding_all rfl) IV.out ?_)
      | ((with_reducible refine (HW.out _ H2.out.below).mono ?_)
         rintro e w3 ⟨rfl, hb3⟩
         have H3 := Lib.hid (H2.out.ext hb3)
         clear hb3)
      | ((with_reducible refine (HR.out _ H3.out.below).mono ?_)
         rintro e w4 ⟨rfl, hb4⟩
         have H4 := Lib.hid (H3.out.ext hb4)
         clear hb4))
    go_wp2_with fail
    refine (tell_errno 1 w4 (HE.out.keep H4.out.below)).mono ?_
    rintro e w5 ⟨rfl, hb5⟩
    have H5 := Lib.hid (H4.out.ext hb5)
    go_wp2_with fail
    go_ret
    exact ⟨rfl, H5.out.below⟩
  · have hlen := hblen (hk.1 hok)
    have hil := (hk.1 hok).il
    obtain ⟨R, hrd, herr⟩ := hbytes hok (by rw [List.length_append]; omega)
    have HRg : Hid (∀ W, Calls Tryd.prog 22 #[.string ⟨(m.bytes ++ more).toArray⟩] W fun e w' => ∃ A cap, e = .returned (.tuple #[.agg (m.vals (.slice A m.insts.length cap)).toArray, .nilIface]) ∧ SlRow w' w'.heap.size 19 A (m.insts.map Ins.vals) ∧ Below W.heap.size W w') := Lib.hid (fun W => mstRead_ok _ m R (by rw [List.length_append]; omega) hrd herr W)
    rw [hok] at HW HR
    simp only [if_true] at HW
    rw [hn] at HRg hlen
    have Hn := Lib.hid hn
    have hleni : (m.bytes.length : Int) = 102 + 16 * (n : Int) := by omega
    clear hk hbytes hblen hok hrd herr hlen hil hn
    generalize m.bytes = S at *
    go_enter Tryd.func4, Tryd.ntmps4
    go_upto_region 1 with (fail)
    generalize World.alloc _ _ = w1 at *
    go_upto_region 3 with (first
      | ((with_reducible refine (HA.out _).mono ?_)
         rintro e w2 ⟨rfl, hb2⟩
         have H2 := Lib.hid (H0.out.ext hb2)
         have HB2 := Lib.hid hb2
         clear hb2))
    have l0 : w.heap.size < w1.heap.size := (H0.out.at 0 rfl).lt
    have c44 : w2.cell? ⟨w.heap.size, 44, none⟩ = some (.slice A n cap) := (World.cell?_of_block (w := w1) (a := ⟨w.heap.size, 44, none⟩) (HB2.out.block _ l0)).trans C44.out
    have c31 : w2.cell? ⟨w.heap.size, 31, none⟩ = some (.string ⟨m.name.toArray⟩) := (World.cell?_of_block (w := w1) (a := ⟨w.heap.size, 31, none⟩) (HB2.out.block _ l0)).trans C31.out
    have c33 : w2.cell? ⟨w.heap.size, 33, none⟩ = some (.string ⟨m.digest.toArray⟩) := (World.cell?_of_block (w := w1) (a := ⟨w.heap.size, 33, none⟩) (HB2.out.block _ l0)).trans C33.out
    obtain ⟨NM, hNM⟩ : ∃ NM, m.name = NM := ⟨_, rfl⟩
    obtain ⟨DG, hDG⟩ : ∃ DG, m.digest = DG := ⟨_, rfl⟩
    rw [hNM] at c31 h300i hs1
    rw [hDG] at c33 h300i hs2
    have h300' : ¬ 300 < NM.length + DG.length + more.length := by rw [← hNM, ← hDG]; exact h300
    clear hNM hDG C31 C33 h300
    go_upto_region 5 with (fail)
    clear c44 c31 c33
    go_upto_region 8 with (first
      | (with_reducible refine wpList_load_rng (ty := 47) VV (by with_unfolding_all rfl) (Blk.box (H3.out.at 0 rfl)).range Tryd.underlying47 (by with_unfolding_all rfl) IV.out ?_)
      | (with_reducible refine wpList_load_rng (ty := 47) VV (by with_unfolding_all rfl) (Blk.box (H2.out.at 0 rfl)).range Tryd.underlying47 (by with_unfolding_all rfl) IV.out ?_)
      | ((with_reducible refine (HW.out _ H2.out.below).mono ?_)
         rintro e w3 ⟨rfl, hb3⟩
         have H3 := Lib.hid (H2.out.ext hb3)
         have HB3 := Lib.hid hb3
         clear hb3)
      | ((with_reducible refine (HR.out _ H3.out.below).mono ?_)
         rintro e w4 ⟨rfl, hb4⟩
         have H4 := Lib.hid (H3.out.ext hb4)
         have HB4 := Lib.hid hb4
         clear hb4))
    go_wp2_with fail
    refine (HRg.out _).mono ?_
    rintro e w5 ⟨A2, c2, rfl, hsl2, hb5⟩
    have H5 := Lib.hid (H4.out.ext hb5)
    have HB5 : Hid (Below w1.heap.size w1 w5) := Lib.hid (HB2.out.trans ((HB3.out.trans ((HB4.out.trans (hb5.mono HB4.out.size)).mono HB3.out.size)).mono HB2.out.size))
    have Hsl2 := Lib.hid hsl2
    clear hb5 HRg hsl2 H4 HB2 HB3 HB4
    go_upto_region 9 with (first
      | (with_reducible refine wpList_store_blk (ty := 47) (o := 0) _ (m.vals (.slice A2 n c2)) (by with_unfolding_all rfl) (by with_unfolding_all rfl) (Blk.new w5 zMst 47) (by with_unfolding_all exact Nat.le_refl _) (by with_unfolding_all exact info47) (Mst.one _ _ rfl) (fun W7 hBW7 hoW7 => ?_)))
    have H7 : Hid (St w.heap.size w W7 [bk w5.heap.size 47 (m.vals (.slice A2 n c2)), bk w.heap.size 47 VV]) := Lib.hid ((H5.out.alloc zMst 47).sets (L' := m.vals (.slice A2 n c2)) hBW7 hoW7)
    obtain ⟨hb7, _⟩ := Only.fresh hoW7
    have c44' : W7.cell? ⟨w.heap.size, 44, none⟩ = some (.slice A n cap) := (World.cell?_of_block (w := w1) (a := ⟨w.heap.size, 44, none⟩) ((HB5.out.trans (hb7.mono HB5.out.size)).block _ l0)).trans C44.out
    have C44' := Lib.hid c44'
    have K1 := Lib.hid (hsame.out W7 A2 c2 H7.out.below (by omega) ((Hsl2.out.below hb7 (Nat.le_refl _)).more hb7.size))
    clear hBW7 hoW7 hb7 Hsl2 H5 hsame c44'
    generalize w5.heap.size = P5 at *
    obtain ⟨V2, hV2⟩ : ∃ V2, m.vals (.slice A2 n c2) = V2 := ⟨_, rfl⟩
    have I2 : Hid ((Tryd.prog.info? 47).map (·.size) = some V2.length) := Lib.hid (by rw [← hV2]; exact info47)
    rw [hV2] at H7 K1
    clear hV2
    go_wp2_with (first
      | (with_reducible refine wpList_load_rngG (ty := 47) VV (by with_unfolding_all rfl) (by with_unfolding_all rfl) (Blk.box (H7.out.at 1 rfl)).range Tryd.underlying47 (by with_unfolding_all rfl) IV.out ?_)
      | (with_reducible refine wpList_load_rngG (ty := 47) V2 (by with_unfolding_all rfl) (by with_unfolding_all rfl) (Blk.box (H7.out.at 0 rfl)).range Tryd.underlying47 (by with_unfolding_all rfl) I2.out ?_)
      | ((with_reducible refine K1.out.mono ?_)
         rintro e w8 ⟨rfl, hb8⟩
         have H8 := Lib.hid (H7.out.ext hb8)
         have c44 : w8.cell? ⟨w.heap.size, 44, none⟩ = some (.slice A n cap) := (World.cell?_of_block (w := W7) (a := ⟨w.heap.size, 44, none⟩) (hb8.block _ (H7.out.at 1 rfl).lt)).trans C44'.out
         clear hb8))
    go_ret
    exact ⟨rfl, H8.out.below⟩
end Go.Proofs.YteibhcocldihbaaDoor

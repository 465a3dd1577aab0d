/- Arguments that came in, opened: numbers, slices of rows. Over any program. An argument that is a struct or an array of plain cells, opened: each cell's kind. Frames that came in, opened; heavy; framed. Frames: padded. (Printed by tools/mkfr10.py.) -/
import Derived.Test.YteibhcocldihbaaDoorOwn
import Derived.Deep.Slices
import Derived.ChangeSame
import Derived.WideShapes
import Derived.OpenShut
import Derived.Test.YteibhcocldihbaaDoorRows
import Derived.Handy
import Derived.Test.YteibhcocldihbaaDoorFr6
import Derived.Test.YteibhcocldihbaaDoorFrW
set_option linter.all false
namespace Go.Proofs.YteibhcocldihbaaDoor
open Go.RowKit Go.ChangeShapes Go.WideShapes Go.Deep
section
variable {H : Type} {enc : TypeId × Value → H} {w : World} {base : Nat} {sp : Nat → Bool} {hd : Bool}
theorem u8_of {n : Int} (h : (Lit.int .u8 n).wf = true) : ∃ b : UInt8, n = b.toNat := by
  have h2 := bounds_u8 h
  refine ⟨UInt8.ofNat n.toNat, ?_⟩
  rw [UInt8.toNat_ofNat']
  omega
theorem take_one {cs : List Value} {i : Nat} {v : Value} (h : (cs.drop i).take 1 = [v]) : cs[i]? = some v := by
  have : ((cs.drop i).take 1)[0]? = some v := by rw [h]; rfl
  rw [List.getElem?_take_of_lt (by omega), List.getElem?_drop] at this
  simpa using this
theorem list_ext_at {l m : List Value} (hl : l.length = m.length) (h : ∀ i, i < m.length → l[i]? = m[i]?) : l = m := by
  apply List.ext_getElem? 
  intro i
  by_cases hi : i < m.length
  · exact h i hi
  · rw [List.getElem?_eq_none (by omega), List.getElem?_eq_none (by omega)]
theorem int_at {P : Program} {fuel : Nat} {e : TypeId} {k : IntKind} {cs : List Value} {i : Nat} {x : DataW H × List MemPlace} (hu : P.underlying e = some (.int k)) (h : DataW.trod enc P w base sp hd fuel e ((cs.drop i).take 1) = some x) : ∃ n, cs[i]? = some (.int k n) ∧ (Lit.int k n).wf = true := by
  obtain ⟨n, h1, _, h2⟩ := DataW.trod_int hu h
  exact ⟨n, take_one h1, h2⟩
/-- A slice whose elements read: its rows. -/
theorem slice_rows {α : Type} [Inhabited α] {t e : TypeId} {fuel : Nat} {cs : List Value} {x : DataW H × List MemPlace} {P : Program} (ht : P.underlying t = some (.slice e)) {s : Nat} (hs : P.cellsOf e = s) (h0 : 0 < s) (vals : α → List Value)
    (Q : α → Prop) (he : ∀ (m : Nat) (cs : List Value) (y : DataW H × List MemPlace), DataW.trod enc P w base sp hd m e cs = some y → ∃ a, cs = vals a ∧ Q a)
    (h : DataW.trod enc P w base sp hd fuel t cs = some x) :
    ∃ (A : Option Addr) (L : List α) (cap : Nat), cs = [.slice A L.length cap] ∧ L.length ≤ cap ∧ L.length ≤ 9223372036854775807 ∧ (∀ a ∈ L, Q a) ∧ SlRow w w.heap.size s A (L.map vals) := by
  rcases open_slice ht h with ⟨e1, _⟩ | ⟨a, len, cap, m, n, D, Pl, e1, _, hl, hm, hmm, _, hx⟩
  · exact ⟨none, [], 0, e1, by simp, by simp, by simp, fun hn => by simp at hn⟩
  · have hlm : len ≤ m := by rw [hmm]; split <;> omega
    obtain ⟨f, hf⟩ := choose_lt (n := len) (p := fun i (y : α) => w.cells? base (a.add (i * s)) s = some (vals y) ∧ Q y) (fun i hi => by
      obtain ⟨cs', h1, h2⟩ := hx i (by omega)
      rw [hs] at h1
      obtain ⟨y, rfl, hq⟩ := he _ _ _ h2
      exact ⟨y, h1, hq⟩)
    have hm' : cap ≤ 9223372036854775807 := by unfold maxLen at hm; omega
    refine ⟨some a, (List.range len).map f, cap, by simpa using e1, by simpa using hl, by simp; omega, ?_, ?_⟩
    · intro y hy
      obtain ⟨i, hi, rfl⟩ := List.mem_map.1 hy
      exact (hf i (by simpa using hi)).2
    · intro hn
      have hn0 : 0 < len := by simpa using hn
      obtain ⟨_, l1, h1⟩ := World.cells?_some (hf 0 hn0).1
      have h2 := h1 0 h0
      rw [Nat.zero_mul, show (a.add 0).add 0 = a from rfl, List.getElem?_eq_getElem (by omega)] at h2
      obtain ⟨g, o, spot⟩ := a
      have hsp : spot = none := by
        cases spot with
        | none => rfl
        | some b =>
          unfold World.cell? at h2
          split at h2
          · simp at h2
          · cases h2
      subst hsp
      have hg : g < w.heap.size := by
        rcases Nat.lt_or_ge g w.heap.size with hlt | hge
        · exact hlt
        · rw [World.cell?, Array.getElem?_eq_none hge] at h2; cases h2
      refine ⟨g, o, rfl, hg, ?_⟩
      intro k hk j u hj
      simp only [List.length_map, List.length_range] at hk
      simp only [List.getElem_map, List.getElem_range] at hj
      obtain ⟨_, h3, h4⟩ := World.cells?_some (hf k hk).1
      have hjl : j < s := by
        have := (List.getElem?_eq_some_iff.1 hj).1
        rw [h3] at this; exact this
      have := h4 j hjl
      rw [Addr.add_mid, Addr.add_mid] at this
      rw [this, hj]
theorem slice_val {P : Program} {r : Reach} {base : Nat} {t e : TypeId} {w : World} {v : Value} {A : Option Addr} {n cap : Nat} (ht : P.underlying t = some (.slice e)) (hval : Value.okWide P w r base t v) (e1 : v.cells.toList = [.slice A n cap]) : v = .slice A n cap := by
  unfold Value.okWide at hval
  rw [ht] at hval
  simp only at hval
  unfold Cell.okWide Cell.ok at hval
  rw [ht] at hval
  cases v with
  | slice A' n' c' => simpa [Value.cells] using e1
  | _ => exact hval.elim
end
end Go.Proofs.YteibhcocldihbaaDoor
namespace Go.Proofs.YteibhcocldihbaaDoor
section
variable {P : Program} {w : World} {r : Reach} {base : Nat}
theorem cell_int {t : TypeId} {v : Value} {k : IntKind} (ht : P.underlying t = some (.int k)) (h : Cell.okWide P w r base t v) : ∃ n, v = .int k n ∧ k.has n := by
  unfold Cell.okWide Cell.ok at h
  rw [ht] at h
  cases v with
  | int k' n => obtain ⟨rfl, hn⟩ := h; exact ⟨n, rfl, hn⟩
  | _ => exact h.elim
theorem cell_bool {t : TypeId} {v : Value} (ht : P.underlying t = some .bool) (h : Cell.okWide P w r base t v) : ∃ b, v = .bool b := by
  unfold Cell.okWide Cell.ok at h
  rw [ht] at h
  cases v with
  | bool b => exact ⟨b, rfl⟩
  | _ => exact h.elim
theorem cell_string {t : TypeId} {v : Value} (ht : P.underlying t = some .string) (h : Cell.okWide P w r base t v) : ∃ s : List UInt8, v = .string ⟨s.toArray⟩ ∧ s.length ≤ 9223372036854775807 := by
  unfold Cell.okWide Cell.ok at h
  rw [ht] at h
  cases v with
  | string s =>
    obtain ⟨⟨l⟩⟩ := s
    have e : IntKind.i64.max = 9223372036854775807 := by rfl
    refine ⟨l, rfl, ?_⟩
    have h' : ((⟨⟨l⟩⟩ : ByteArray).size : Int) ≤ IntKind.i64.max := h
    rw [e] at h'
    have h2 : (⟨⟨l⟩⟩ : ByteArray).size = l.length := rfl
    omega
  | _ => exact h.elim
theorem flatV {t : TypeId} {v : Value} {ts : List TypeId} (hu : (∃ fs, P.underlying t = some (.struct fs)) ∨ ∃ n e, P.underlying t = some (.array n e)) (hts : P.cellTypes P.depth t = some ts) (hC : P.cellsOf t = ts.length)
    (h : Value.okWide P w r base t v) : ∃ cs : List Value, v = .agg cs.toArray ∧ cs.length = ts.length ∧ ∀ (i : Nat) (u : TypeId), ts[i]? = some u → ∃ c, cs[i]? = some c ∧ Cell.okWide P w r base u c := by
  have h' : ∃ cs : Array Value, v = .agg cs ∧ cs.size = P.cellsOf t ∧ Row.okWide P w r base t cs := by
    unfold Value.okWide at h
    rcases hu with ⟨fs, hu⟩ | ⟨n, e, hu⟩
    · rw [hu] at h; exact h
    · rw [hu] at h; exact h
  obtain ⟨⟨cs⟩, rfl, hsz, ts', hts', _, hi⟩ := h'
  rw [hts] at hts'
  obtain rfl := Option.some.inj hts'
  have hsz' : cs.length = ts.length := hsz.trans hC
  refine ⟨cs, rfl, hsz', fun i u hiu => ?_⟩
  have hlt : i < ts.length := (List.getElem?_eq_some_iff.1 hiu).1
  have hlt' : i < cs.length := by omega
  obtain ⟨u', hu', hc⟩ := hi i cs[i] (by simp [hlt'])
  rw [Nat.mod_eq_of_lt hlt, hiu] at hu'
  obtain rfl := Option.some.inj hu'
  exact ⟨cs[i], List.getElem?_eq_getElem hlt', hc⟩
end
end Go.Proofs.YteibhcocldihbaaDoor
namespace Go.Proofs.YteibhcocldihbaaDoor
open Go.RowKit Go.ChangeShapes Go.WideShapes
theorem frWrite_any (f : Fu) (A : Option Addr) (cap : Nat) (w : World) (hn : f.tags.length ≤ 100000) (hr : SlRow w w.heap.size 4 A (f.tags.map Tk.vals)) :
    Calls Tryd.prog 26 #[.agg (f.vals (.slice A f.tags.length cap)).toArray] w fun e w' => e = .returned (if f.okB = true then .tuple #[.string ⟨f.bytes.toArray⟩, .nilIface] else .tuple #[.string ⟨#[]⟩, .iface 32 (.int .i64 1)]) ∧ Below w.heap.size w w' := by
  cases h : f.okB
  · exact frWrite_no f A cap w hn hr h
  · exact frWrite_ok f A cap w hr h
theorem cTk : Tryd.prog.cellsOf 124 = 4 := by kernel_rfl
theorem cTkB : Tryd.prog.cellsOf 4 = 1 := by kernel_rfl
theorem cTkI : Tryd.prog.cellsOf 3 = 1 := by kernel_rfl
theorem cTkS : Tryd.prog.cellsOf 55 = 1 := by kernel_rfl
theorem cFu : Tryd.prog.cellsOf 57 = 21 := by kernel_rfl
set_option maxRecDepth 100000 in
theorem trod_tag {H : Type} {enc : TypeId × Value → H} {w : World} {base : Nat} {sp : Nat → Bool} {hd : Bool} {fuel : Nat} {cs : List Value} {x : DataW H × List MemPlace} (h : DataW.trod enc Tryd.prog w base sp hd fuel 124 cs = some x) : ∃ b : Tk, cs = b.vals := by
  obtain ⟨xs, n, _, _, hl, hxl, hx⟩ := DataW.trod_struct Tryd.underlying124 h
  rw [cTk] at hl
  have hxl : xs.length = 4 := hxl
  have h0 : DataW.trod enc Tryd.prog w base sp hd n 4 ((cs.drop 0).take (Tryd.prog.cellsOf 4)) = xs[0]? := hx 0 _ rfl
  have h1 : DataW.trod enc Tryd.prog w base sp hd n 3 ((cs.drop 1).take (Tryd.prog.cellsOf 3)) = xs[1]? := hx 1 _ rfl
  have h2 : DataW.trod enc Tryd.prog w base sp hd n 4 ((cs.drop 2).take (Tryd.prog.cellsOf 4)) = xs[2]? := hx 2 _ rfl
  have h3 : DataW.trod enc Tryd.prog w base sp hd n 3 ((cs.drop 3).take (Tryd.prog.cellsOf 3)) = xs[3]? := hx 3 _ rfl
  rw [List.getElem?_eq_getElem (by omega)] at h0 h1 h2 h3
  rw [cTkB] at h0 h2
  rw [cTkI] at h1 h3
  obtain ⟨b0, h0, _⟩ := DataW.trod_bool Tryd.underlying4 h0
  obtain ⟨n1, h1, _⟩ := int_at Tryd.underlying3 h1
  obtain ⟨b2, h2, _⟩ := DataW.trod_bool Tryd.underlying4 h2
  obtain ⟨n3, h3, _⟩ := int_at Tryd.underlying3 h3
  have h0 := take_one h0
  have h2 := take_one h2
  refine ⟨⟨b0, n1, b2, n3⟩, ?_⟩
  match cs, hl with
  | [c0, c1, c2, c3], _ =>
    simp only [List.getElem?_cons_zero, List.getElem?_cons_succ, Option.some.injEq] at h0 h1 h2 h3
    rw [h0, h1, h2, h3]; rfl
theorem u8_has {n : Int} (h : IntKind.u8.has n) : ∃ b : UInt8, n = b.toNat := by
  have h2 : 0 ≤ n ∧ n ≤ 255 := h
  refine ⟨UInt8.ofNat n.toNat, ?_⟩
  rw [UInt8.toNat_ofNat']
  omega
/-- A frame that came in. -/
def IsFu (w : World) (v : Value) (f : Fu) : Prop := ∃ A cap, v = .agg (f.vals (.slice A f.tags.length cap)).toArray ∧ SlRow w w.heap.size 4 A (f.tags.map Tk.vals) ∧ f.tags.length ≤ cap
theorem fu_types : Tryd.prog.cellTypes Tryd.prog.depth 57 = some [5, 5, 5, 5, 5, 5, 5, 5, 5, 5, 5, 5, 55, 3, 3, 3, 3, 3, 3, 3, 9] := by kernel_rfl
theorem fu_struct : ∃ fs, Tryd.prog.underlying 57 = some (.struct fs) := ⟨_, Tryd.underlying57⟩
set_option maxRecDepth 100000 in
set_option maxHeartbeats 4000000 in
theorem open_fu {H : Type} {enc : TypeId × Value → H} {w : World} {r : Reach} {base : Nat} {b0 : Nat} {sp : Nat → Bool} {hd : Bool} {v : Value} {d : DataW H} {ps : List MemPlace}
    (h : Value.okWide Tryd.prog w r base 57 v) (ht : DataW.Trod enc Tryd.prog w b0 sp hd 57 v d ps) : ∃ f, IsFu w v f := by
  obtain ⟨cs, rfl, hl, hc⟩ := flatV (.inl fu_struct) fu_types (by kernel_rfl) h
  obtain ⟨fuel, ht⟩ := ht
  have ht : DataW.trod enc Tryd.prog w b0 sp hd fuel 57 cs = some (d, ps) := by simpa [Value.cells] using ht
  obtain ⟨xs, n, _, _, hl2, hxl, hx⟩ := DataW.trod_struct Tryd.underlying57 ht
  have hxl : xs.length = 11 := hxl
  have hs : DataW.trod enc Tryd.prog w b0 sp hd n 55 ((cs.drop 12).take (Tryd.prog.cellsOf 55)) = xs[2]? := hx 2 _ rfl
  rw [List.getElem?_eq_getElem (by omega), cTkS] at hs
  obtain ⟨A, L, cap, e, hcap, _, _, hr⟩ := slice_rows (α := Tk) Tryd.underlying55 cTk (by omega) Tk.vals (fun _ => True) (fun m cs y h => by
    obtain ⟨b, e⟩ := trod_tag h
    exact ⟨b, e, trivial⟩) hs
  have hsl := take_one e
  clear hx hs e hl2
  match cs, hl with
  | [z0, z1, z2, z3, z4, z5, z6, z7, z8, z9, z10, z11, z12, z13, z14, z15, z16, z17, z18, z19, z20], _ =>
    obtain rfl : z12 = .slice A L.length cap := Option.some.inj hsl
    obtain ⟨x0, e0, k0⟩ := hc 0 5 rfl
    obtain ⟨x1, e1, k1⟩ := hc 1 5 rfl
    obtain ⟨x2, e2, k2⟩ := hc 2 5 rfl
    obtain ⟨x3, e3, k3⟩ := hc 3 5 rfl
    obtain ⟨x4, e4, k4⟩ := hc 4 5 rfl
    obtain ⟨x5, e5, k5⟩ := hc 5 5 rfl
    obtain ⟨x6, e6, k6⟩ := hc 6 5 rfl
    obtain ⟨x7, e7, k7⟩ := hc 7 5 rfl
    obtain ⟨x8, e8, k8⟩ := hc 8 5 rfl
    obtain ⟨x9, e9, k9⟩ := hc 9 5 rfl
    obtain ⟨x10, e10, k10⟩ := hc 10 5 rfl
    obtain ⟨x11, e11, k11⟩ := hc 11 5 rfl
    obtain ⟨x13, e13, k13⟩ := hc 13 3 rfl
    obtain ⟨x14, e14, k14⟩ := hc 14 3 rfl
    obtain ⟨x15, e15, k15⟩ := hc 15 3 rfl
    obtain ⟨x16, e16, k16⟩ := hc 16 3 rfl
    obtain ⟨x17, e17, k17⟩ := hc 17 3 rfl
    obtain ⟨x18, e18, k18⟩ := hc 18 3 rfl
    obtain ⟨x19, e19, k19⟩ := hc 19 3 rfl
    obtain ⟨x20, e20, k20⟩ := hc 20 9 rfl
    obtain rfl : z0 = x0 := Option.some.inj e0
    obtain rfl : z1 = x1 := Option.some.inj e1
    obtain rfl : z2 = x2 := Option.some.inj e2
    obtain rfl : z3 = x3 := Option.some.inj e3
    obtain rfl : z4 = x4 := Option.some.inj e4
    obtain rfl : z5 = x5 := Option.some.inj e5
    obtain rfl : z6 = x6 := Option.some.inj e6
    obtain rfl : z7 = x7 := Option.some.inj e7
    obtain rfl : z8 = x8 := Option.some.inj e8
    obtain rfl : z9 = x9 := Option.some.inj e9
    obtain rfl : z10 = x10 := Option.some.inj e10
    obtain rfl : z11 = x11 := Option.some.inj e11
    obtain rfl : z13 = x13 := Option.some.inj e13
    obtain rfl : z14 = x14 := Option.some.inj e14
    obtain rfl : z15 = x15 := Option.some.inj e15
    obtain rfl : z16 = x16 := Option.some.inj e16
    obtain rfl : z17 = x17 := Option.some.inj e17
    obtain rfl : z18 = x18 := Option.some.inj e18
    obtain rfl : z19 = x19 := Option.some.inj e19
    obtain rfl : z20 = x20 := Option.some.inj e20
    obtain ⟨n0, rfl, h0⟩ := cell_int Tryd.underlying5 k0
    obtain ⟨n1, rfl, h1⟩ := cell_int Tryd.underlying5 k1
    obtain ⟨n2, rfl, h2⟩ := cell_int Tryd.underlying5 k2
    obtain ⟨n3, rfl, h3⟩ := cell_int Tryd.underlying5 k3
    obtain ⟨n4, rfl, h4⟩ := cell_int Tryd.underlying5 k4
    obtain ⟨n5, rfl, h5⟩ := cell_int Tryd.underlying5 k5
    obtain ⟨n6, rfl, h6⟩ := cell_int Tryd.underlying5 k6
    obtain ⟨n7, rfl, h7⟩ := cell_int Tryd.underlying5 k7
    obtain ⟨n8, rfl, h8⟩ := cell_int Tryd.underlying5 k8
    obtain ⟨n9, rfl, h9⟩ := cell_int Tryd.underlying5 k9
    obtain ⟨n10, rfl, h10⟩ := cell_int Tryd.underlying5 k10
    obtain ⟨n11, rfl, h11⟩ := cell_int Tryd.underlying5 k11
    obtain ⟨c0, rfl⟩ := u8_has h0
    obtain ⟨c1, rfl⟩ := u8_has h1
    obtain ⟨c2, rfl⟩ := u8_has h2
    obtain ⟨c3, rfl⟩ := u8_has h3
    obtain ⟨c4, rfl⟩ := u8_has h4
    obtain ⟨c5, rfl⟩ := u8_has h5
    obtain ⟨c6, rfl⟩ := u8_has h6
    obtain ⟨c7, rfl⟩ := u8_has h7
    obtain ⟨c8, rfl⟩ := u8_has h8
    obtain ⟨c9, rfl⟩ := u8_has h9
    obtain ⟨c10, rfl⟩ := u8_has h10
    obtain ⟨c11, rfl⟩ := u8_has h11
    obtain ⟨c13, rfl, _⟩ := cell_int Tryd.underlying3 k13
    obtain ⟨c14, rfl, _⟩ := cell_int Tryd.underlying3 k14
    obtain ⟨c15, rfl, _⟩ := cell_int Tryd.underlying3 k15
    obtain ⟨c16, rfl, _⟩ := cell_int Tryd.underlying3 k16
    obtain ⟨c17, rfl, _⟩ := cell_int Tryd.underlying3 k17
    obtain ⟨c18, rfl, _⟩ := cell_int Tryd.underlying3 k18
    obtain ⟨c19, rfl, _⟩ := cell_int Tryd.underlying3 k19
    obtain ⟨c20, rfl, _⟩ := cell_string Tryd.underlying9 k20
    exact ⟨⟨⟨c0, c1, c2, c3, c4, c5⟩, ⟨c6, c7, c8, c9, c10, c11⟩, L, c13, c14, c15, c16, c17, c18, c19, c20⟩, A, cap, rfl, hr, hcap⟩
set_option maxRecDepth 100000 in
set_option maxHeartbeats 1000000 in
theorem heavy_any (f : Fu) (A : Option Addr) (cap : Nat) (w : World) :
    Calls Tryd.prog 25 #[.agg (f.vals (.slice A f.tags.length cap)).toArray] w fun e w' => e = .returned (.bool (decide (20 < f.tags.length) || decide (3000 < f.body.length))) ∧ Below w.heap.size w w' := by
  have H0 := Lib.hid ((St.init w).alloc (f.vals (.slice A f.tags.length cap)) 57)
  have c12 := (fu_in (Blk.box (H0.out.at 0 rfl))).tags
  have c20 := (fu_in (Blk.box (H0.out.at 0 rfl))).body
  by_cases h1 : 20 < f.tags.length
  · have hI : (20 : Int) < (f.tags.length : Int) := by omega
    rw [decide_eq_true h1]
    clear h1
    go_enter Tryd.func25, Tryd.ntmps25
    go_upto_region 1 with (fail)
    generalize World.alloc _ _ = w1 at *
    go_wp2_with fail
    go_ret
    exact ⟨rfl, H0.out.below⟩
  · have hI : ¬ (20 : Int) < (f.tags.length : Int) := by omega
    rw [decide_eq_false h1]
    clear h1
    by_cases h2 : 3000 < f.body.length
    · have hI2 : (3000 : Int) < (f.body.length : Int) := by omega
      rw [decide_eq_true h2]
      clear h2
      go_enter Tryd.func25, Tryd.ntmps25
      go_upto_region 1 with (fail)
      generalize World.alloc _ _ = w1 at *
      go_wp2_with fail
      go_ret
      exact ⟨rfl, H0.out.below⟩
    · have hI2 : ¬ (3000 : Int) < (f.body.length : Int) := by omega
      rw [decide_eq_false h2]
      clear h2
      go_enter Tryd.func25, Tryd.ntmps25
      go_upto_region 1 with (fail)
      generalize World.alloc _ _ = w1 at *
      go_wp2_with fail
      go_ret
      exact ⟨rfl, H0.out.below⟩
/-! The fact. -/
theorem wpList_buildAG2 {P : Program} {ops : Array Oper} {rest : List Oper} {d : Tmp} {t : TypeId} {parts : Array (Nat × Operand)} {t' : TypeId} {pos : String} {after : Array Edge} {gd : Option (Nat × Bool)} {a : Act} {w : World} {Q : Exit → Act → World → Prop} (vs : List (Nat × Value)) (cells : List Value)
    (hg : Region.wanted ⟨some d, .build t parts, t', pos, after, gd⟩ (yielded ops a.tmps) = true) (hv : (parts.map fun (i, x) => (i, a.eval x)).toList = vs) (hc : P.built t vs = some cells.toArray) (h : wpList P ops Q rest (a.put (some d) (.agg cells.toArray)) w) :
    wpList P ops Q (⟨some d, .build t parts, t', pos, after, gd⟩ :: rest) a w :=
  wpList_step fun K hK => by
    rw [if_pos hg]
    refine wp_build t parts rfl (by rw [hv, hc]; rfl) ?_
    rw [hv, hc]
    exact hK _ _ h
def fr0 : Fu := ⟨⟨1, 0, 0, 0, 0, 0⟩, ⟨2, 0, 0, 0, 0, 0⟩, [⟨false, 0, false, 5⟩], 2, 0, 1, 2, 3, 0, 0, [120]⟩
theorem fr0_b1 : Tryd.prog.built 23 [(0, .int .u8 1)] = some (Ad.vals ⟨1, 0, 0, 0, 0, 0⟩).toArray := by kernel_rfl
theorem fr0_b2 : Tryd.prog.built 23 [(0, .int .u8 2)] = some (Ad.vals ⟨2, 0, 0, 0, 0, 0⟩).toArray := by kernel_rfl
theorem fr0_b3 : Tryd.prog.built 124 [(3, .int .i64 5)] = some (Tk.vals ⟨false, 0, false, 5⟩).toArray := by kernel_rfl
theorem fr0_b4 (g : Nat) : Tryd.prog.built 57 [(0, .agg (Ad.vals ⟨1, 0, 0, 0, 0, 0⟩).toArray), (1, .agg (Ad.vals ⟨2, 0, 0, 0, 0, 0⟩).toArray), (2, .slice (some ⟨g, 0, none⟩) 1 1), (3, .int .i64 2), (5, .int .i64 1), (6, .int .i64 2), (7, .int .i64 3), (10, .string ⟨#[120]⟩)] = some (fr0.vals (.slice (some ⟨g, 0, none⟩) 1 1)).toArray := by kernel_rfl
set_option maxRecDepth 100000 in
set_option maxHeartbeats 4000000 in
theorem framed_any (w : World) (hE : ErrVar w) : Calls Tryd.prog 24 #[] w fun e w' => e = .returned (.bool true) ∧ Below w.heap.size w w' := by
  have HE := Lib.hid hE
  have hok : fr0.okB = true := by decide
  have hrd := readFr_bytes0 fr0 hok
  have hl22 : fr0.bytes.length = 22 := by decide
  have Hok := Lib.hid hok
  have Hrd := Lib.hid hrd
  clear hE hok hrd
  go_enter Tryd.func24, Tryd.ntmps24
  go_upto_region 2 with (first
    | (with_reducible refine wpList_buildA (t := 23) [(0, .int .u8 1)] (Ad.vals ⟨1, 0, 0, 0, 0, 0⟩) (by with_unfolding_all rfl) fr0_b1 ?_)
    | (with_reducible refine wpList_buildA (t := 23) [(0, .int .u8 2)] (Ad.vals ⟨2, 0, 0, 0, 0, 0⟩) (by with_unfolding_all rfl) fr0_b2 ?_)
    | (with_reducible refine wpList_buildA (t := 124) [(3, .int .i64 5)] (Tk.vals ⟨false, 0, false, 5⟩) (by with_unfolding_all rfl) fr0_b3 ?_)
    | ((with_reducible refine wpList_build1 (Tk.vals ⟨false, 0, false, 5⟩) elemTag ?hxb rfl (by decide) ?_)
       case hxb => rfl
       intro W1 hB1 hb1 hl1)
    | (with_reducible refine wpList_buildA (t := 57) [(0, .agg (Ad.vals ⟨1, 0, 0, 0, 0, 0⟩).toArray), (1, .agg (Ad.vals ⟨2, 0, 0, 0, 0, 0⟩).toArray), (2, .slice (some ⟨w.heap.size, 0, none⟩) 1 1), (3, .int .i64 2), (5, .int .i64 1), (6, .int .i64 2), (7, .int .i64 3), (10, .string ⟨#[120]⟩)] (fr0.vals (.slice (some ⟨w.heap.size, 0, none⟩) 1 1)) (by with_unfolding_all rfl) (fr0_b4 w.heap.size) ?_)
    | (with_reducible refine wpList_store_blk (ty := 57) (o := 0) _ (fr0.vals (.slice (some ⟨w.heap.size, 0, none⟩) 1 1)) (by with_unfolding_all rfl) (by with_unfolding_all rfl) (Blk.new W1 zFu 57) (by with_unfolding_all exact Nat.le_refl _) (by with_unfolding_all exact info57) (Fu.one _ _ rfl) (fun W2 hBW2 hoW2 => ?_)))
  have hSl : SlRow W1 W1.heap.size 4 (some ⟨w.heap.size, 0, none⟩) (fr0.tags.map Tk.vals) := fun _ => ⟨w.heap.size, 0, rfl, hl1, fun k hk => by
    have : k = 0 := by
      have : (fr0.tags.map Tk.vals).length = 1 := rfl
      omega
    subst this
    exact (Blk.box hB1).range⟩
  have H1 : Hid (St w.heap.size w W1 []) := Lib.hid ((St.init w).ext hb1)
  have H2 : Hid (St w.heap.size w W2 [bk W1.heap.size 57 (fr0.vals (.slice (some ⟨w.heap.size, 0, none⟩) 1 1))]) := Lib.hid ((H1.out.alloc zFu 57).sets (L' := fr0.vals (.slice (some ⟨w.heap.size, 0, none⟩) 1 1)) hBW2 hoW2)
  obtain ⟨hb8, _⟩ := Only.fresh hoW2
  have HS : Hid (∀ W, Below W2.heap.size W2 W → SlRow W W.heap.size 4 (some ⟨w.heap.size, 0, none⟩) (fr0.tags.map Tk.vals)) := Lib.hid (fun W hW => by
    have hb := hb8.trans (hW.mono hb8.size)
    exact (hSl.below hb (Nat.le_refl _)).more hb.size)
  have HW : Hid (Calls Tryd.prog 26 #[.agg (fr0.vals (.slice (some ⟨w.heap.size, 0, none⟩) 1 1)).toArray] W2 fun e w' => e = .returned (.tuple #[.string ⟨fr0.bytes.toArray⟩, .nilIface]) ∧ Below W2.heap.size W2 w') := Lib.hid (frWrite_ok fr0 (some ⟨w.heap.size, 0, none⟩) 1 W2 (HS.out W2 (Below.refl _ _)) Hok.out)
  obtain ⟨S, hS⟩ : ∃ S, fr0.bytes = S := ⟨_, rfl⟩
  rw [hS] at HW hl22 Hrd
  clear hS hSl H1 hBW2 hoW2 hb8 hB1 hb1 hl1
  generalize W1.heap.size = P at *
  generalize hgQ : w.heap.size = Q at *
  go_upto_region 3 with (first
    | (with_reducible refine wpList_load_rng (ty := 57) (fr0.vals (.slice (some ⟨Q, 0, none⟩) 1 1)) (by with_unfolding_all rfl) (Blk.box (H2.out.at 0 rfl)).range Tryd.underlying57 (by with_unfolding_all rfl) (by with_unfolding_all exact info57) ?_)
    | ((with_reducible refine HW.out.mono ?_)
       rintro e w3 ⟨rfl, hb3⟩
       have H3 := Lib.hid (H2.out.ext hb3)
       have HB3 := Lib.hid hb3
       clear hb3))
  go_wp2_with fail
  refine (frRead_any S (by omega) w3 (HE.out.ext3 (by rw [hgQ]; exact H3.out.below))).mono ?_
  rintro e w4 ⟨hg, hb4⟩
  obtain ⟨A, cap, he, hsl⟩ := hg.1 _ Hrd.out
  rw [show fr0.tags.length = 1 from rfl] at he
  subst he
  have Hsl := Lib.hid hsl
  have HB4 := Lib.hid hb4
  have H4 := Lib.hid (H3.out.ext hb4)
  clear hg hsl hb4 HW H2 H3
  go_upto_region 4 with (first
    | (with_reducible refine wpList_store_blk (ty := 57) (o := 0) _ (fr0.vals (.slice A 1 cap)) (by with_unfolding_all rfl) (by with_unfolding_all rfl) (Blk.new w4 zFu 57) (by with_unfolding_all exact Nat.le_refl _) (by with_unfolding_all exact info57) (Fu.one _ _ rfl) (fun W5 hBW5 hoW5 => ?_)))
  have H5 : Hid (St Q w W5 [bk w4.heap.size 57 (fr0.vals (.slice A 1 cap)), bk P 57 (fr0.vals (.slice (some ⟨Q, 0, none⟩) 1 1))]) := Lib.hid ((H4.out.alloc zFu 57).sets (L' := fr0.vals (.slice A 1 cap)) hBW5 hoW5)
  obtain ⟨hb5, _⟩ := Only.fresh hoW5
  have HB5 : Hid (Below W2.heap.size W2 W5) := Lib.hid (HB3.out.trans ((HB4.out.mono HB3.out.size).trans (hb5.mono (Nat.le_trans HB3.out.size HB4.out.size))))
  have HS5 := Lib.hid (HS.out W5 HB5.out)
  have HS6 := Lib.hid ((Hsl.out.below hb5 (Nat.le_refl _)).more hb5.size)
  have HSm : Hid (Calls Tryd.prog 29 #[.agg (fr0.vals (.slice (some ⟨Q, 0, none⟩) 1 1)).toArray, .agg (fr0.vals (.slice A 1 cap)).toArray] W5 fun e w' => e = .returned (.bool true) ∧ Below W5.heap.size W5 w') := Lib.hid (frSame_yes fr0 (some ⟨Q, 0, none⟩) A 1 cap W5 (by decide) HS5.out HS6.out)
  have HRt : Hid (∀ W, Below W5.heap.size W5 W → Calls Tryd.prog 27 #[.agg (fr0.vals (.slice (some ⟨Q, 0, none⟩) 1 1)).toArray] W fun e w' => e = .returned (.bool true) ∧ Below W.heap.size W w') := Lib.hid (fun W hW => by
    have := frRight_any fr0 (some ⟨Q, 0, none⟩) 1 W (by decide) ((HS5.out.below hW (Nat.le_refl _)).more hW.size)
    rw [Hok.out] at this
    exact this)
  have HRz : Hid (∀ W, Calls Tryd.prog 27 #[.agg (Fu.vals Fu.zero (.slice none 0 0)).toArray] W fun e w' => e = .returned (.bool false) ∧ Below W.heap.size W w') := Lib.hid (fun W => by
    have := frRight_any Fu.zero none 0 W (by decide) (fun h => by simp [Fu.zero] at h)
    rw [show Fu.zero.okB = false by decide] at this
    exact this)
  clear hBW5 hoW5 hb5 HB5 HS5 HS6 HS H4 Hsl HB3 HB4
  generalize w4.heap.size = P4 at *
  go_wp2_with (first
    | (with_reducible refine wpList_load_rngG (ty := 57) (fr0.vals (.slice (some ⟨Q, 0, none⟩) 1 1)) (by with_unfolding_all rfl) (by with_unfolding_all rfl) (Blk.box (H6.out.at 1 rfl)).range Tryd.underlying57 (by with_unfolding_all rfl) (by with_unfolding_all exact info57) ?_)
    | (with_reducible refine wpList_load_rngG (ty := 57) (fr0.vals (.slice (some ⟨Q, 0, none⟩) 1 1)) (by with_unfolding_all rfl) (by with_unfolding_all rfl) (Blk.box (H5.out.at 1 rfl)).range Tryd.underlying57 (by with_unfolding_all rfl) (by with_unfolding_all exact info57) ?_)
    | (with_reducible refine wpList_load_rngG (ty := 57) (fr0.vals (.slice A 1 cap)) (by with_unfolding_all rfl) (by with_unfolding_all rfl) (Blk.box (H5.out.at 0 rfl)).range Tryd.underlying57 (by with_unfolding_all rfl) (by with_unfolding_all exact info57) ?_)
    | ((with_reducible refine HSm.out.mono ?_)
       rintro e w6 ⟨rfl, hb6⟩
       have H6 := Lib.hid (H5.out.ext hb6)
       have HB6 := Lib.hid hb6
       clear hb6)
    | ((with_reducible refine (HRt.out _ HB6.out).mono ?_)
       rintro e w7 ⟨rfl, hb7⟩
       have H7 := Lib.hid (H6.out.ext hb7)
       clear hb7)
    | (with_reducible refine wpList_buildAG2 (t := 57) [] (Fu.vals Fu.zero (.slice none 0 0)) (by with_unfolding_all rfl) (by with_unfolding_all rfl) fu_built0 ?_)
    | ((with_reducible refine (HRz.out _).mono ?_)
       rintro e w8 ⟨rfl, hb8⟩
       have H8 := Lib.hid (H7.out.ext hb8)
       clear hb8))
  go_ret
  exact ⟨rfl, by rw [hgQ]; exact H8.out.below⟩
end Go.Proofs.YteibhcocldihbaaDoor
namespace Go.Proofs.YteibhcocldihbaaDoor
open Go.RowKit
theorem rep_nought0 (k : Nat) : Lib.repeatL (⟨#[0]⟩ : ByteArray).data.toList k = List.replicate k (0 : UInt8) := by
  induction k with
  | zero => rfl
  | succ k ih => rw [List.replicate_succ, ← ih]; rfl
theorem repeat_fr (k : Nat) (hk : k ≤ 2000) (w : World) : Calls Tryd.prog 44 #[.string ⟨#[0]⟩, .int .i64 (k : Int)] w fun e w' => e = .returned (.string ⟨(List.replicate k (0 : UInt8)).toArray⟩) ∧ Below w.heap.size w w' := by
  have h := Tryd.strings_Repeat ⟨#[0]⟩ k w (by omega) (by show 1 * k ≤ _; omega)
  rw [rep_nought0] at h
  exact h
set_option maxRecDepth 100000 in
set_option maxHeartbeats 1000000 in
theorem pad_any (S : List UInt8) (hl : S.length ≤ 100000) (w : World) : Calls Tryd.prog 32 #[.string ⟨S.toArray⟩] w fun e w' => e = .returned (.string ⟨(S ++ List.replicate (60 - S.length) 0).toArray⟩) ∧ Below w.heap.size w w' := by
  have HRp := Lib.hid (fun W => repeat_fr (60 - S.length) (by omega) W)
  have hrl : (List.replicate (60 - S.length) (0 : UInt8)).length ≤ 60 := by rw [List.length_replicate]; omega
  generalize List.replicate (60 - S.length) (0 : UInt8) = Z at *
  by_cases h : S.length ≤ 60
  · have hm : ((60 - S.length : Nat) : Int) = 60 - (S.length : Int) := by omega
    rw [hm] at HRp
    have hI : (0 : Int) ≤ 60 - (S.length : Int) := by omega
    have hmx : max (0 : Int) (60 - (S.length : Int)) = 60 - (S.length : Int) := by omega
    have hn : ¬ (60 - (S.length : Int) : Int) < 0 := by omega
    clear hm
    go_enter Tryd.func32, Tryd.ntmps32
    go_wp2_with fail
    refine (HRp.out _).mono ?_
    rintro e w1 ⟨rfl, hb1⟩
    go_wp2_with fail
    go_ret
    exact ⟨rfl, hb1⟩
  · have hm : ((60 - S.length : Nat) : Int) = 0 := by omega
    rw [hm] at HRp
    have hI : ¬ (0 : Int) ≤ 60 - (S.length : Int) := by omega
    have hmx : max (0 : Int) (60 - (S.length : Int)) = 0 := by omega
    clear hm
    go_enter Tryd.func32, Tryd.ntmps32
    go_wp2_with fail
    refine (HRp.out _).mono ?_
    rintro e w1 ⟨rfl, hb1⟩
    go_wp2_with fail
    go_ret
    exact ⟨rfl, hb1⟩
theorem sl_setCell {w : World} {B : Nat} {A : Option Addr} {l : List Tk} {p : Addr} {s : ByteArray} {y : Value} (h : SlRow w B 4 A (l.map Tk.vals)) (hc : w.cell? p = some (.string s)) : SlRow (w.setCell p y) B 4 A (l.map Tk.vals) := by
  intro hn
  obtain ⟨g, o, e, hg, hr⟩ := h hn
  refine ⟨g, o, e, hg, fun k hk j v hj => ?_⟩
  have h1 := hr k hk j v hj
  have hv : v ≠ .string s := by
    rw [List.getElem_map] at hj
    match j, hj with
    | 0, hj => rintro rfl; cases hj
    | 1, hj => rintro rfl; cases hj
    | 2, hj => rintro rfl; cases hj
    | 3, hj => rintro rfl; cases hj
    | n + 4, hj => cases hj
  have hne : p ≠ ⟨g, o + k * 4 + j, none⟩ := fun e => by
    subst e
    rw [h1] at hc
    exact hv (Option.some.inj hc)
  rw [World.cell?_setCell_other _ _ _ _ hne]
  exact h1
theorem ok_body {f : Fu} {Z : List UInt8} (hf : f.okB = true) (hk : f.kind = 1) (hl : f.bytes.length + Z.length ≤ 2000) : ({ f with body := f.body ++ Z } : Fu).okB = true ∧ ({ f with body := f.body ++ Z } : Fu).bytes = f.bytes ++ Z := by
  have hx : f.extra = 0 := by unfold Fu.extra; rw [if_neg (by omega), if_neg (by omega)]
  have hm : f.mid = [] := by unfold Fu.mid; rw [if_neg (by omega), if_neg (by omega)]
  rw [Fu.bytes_len] at hl
  simp only [Fu.okB, Bool.and_eq_true, decide_eq_true_eq] at hf ⊢
  obtain ⟨a, b, c, d⟩ := hf
  have hh : f.head = 14 + 4 * f.tags.length + f.extra := rfl
  refine ⟨⟨a, ?_, ?_, ?_⟩, ?_⟩
  · show (f.body ++ Z).length ≤ 2000
    rw [List.length_append]; omega
  · show f.head + (f.body ++ Z).length ≤ 2000
    rw [List.length_append]; omega
  · unfold Fu.kindB at d ⊢
    simp only [hk, if_true] at d ⊢
    exact d
  · unfold Fu.bytes
    have e1 : ({ f with body := f.body ++ Z } : Fu).lt = f.lt := by unfold Fu.lt; simp only [hk, if_true]
    have e2 : ({ f with body := f.body ++ Z } : Fu).mid = f.mid := rfl
    rw [e1, e2, hm]
    simp [List.append_assoc]
set_option maxRecDepth 100000 in
set_option maxHeartbeats 20000000 in
theorem law_FramePads (v : Value) (f : Fu) (w : World) (hv : IsFu w v f) (hE : ErrVar w) :
    Calls Tryd.prog 10 #[v] w fun e w' => e = .returned (.bool true) ∧ Below w.heap.size w w' := by
  obtain ⟨A, cap, rfl, hr, hcap⟩ := hv
  have HE := Lib.hid hE
  have Hr := Lib.hid hr
  clear hE hr
  have H0 := Lib.hid ((St.init w).alloc (f.vals (.slice A f.tags.length cap)) 57)
  have HFr : Hid (∀ W, Below w.heap.size w W → Calls Tryd.prog 24 #[] W fun e w' => e = .returned (.bool true) ∧ Below W.heap.size W w') := Lib.hid (fun W h => framed_any W (HE.out.ext3 h))
  have HHv := Lib.hid (fun W => heavy_any f A cap W)
  by_cases hhv : (decide (20 < f.tags.length) || decide (3000 < f.body.length)) = true
  · rw [hhv] at HHv
    clear hhv
    go_enter Tryd.func10, Tryd.ntmps10
    go_upto_region 1 with (fail)
    generalize World.alloc _ _ = w1 at *
    go_wp2_with (first
      | ((with_reducible refine (HFr.out _ H0.out.below).mono ?_)
         rintro e w2 ⟨rfl, hb2⟩
         have H1 := Lib.hid (H0.out.ext hb2)
         clear hb2)
      | (with_reducible refine wpList_load_rng (ty := 57) (f.vals (.slice A f.tags.length cap)) (by with_unfolding_all rfl) (Blk.box (H1.out.at 0 rfl)).range Tryd.underlying57 (by with_unfolding_all rfl) (by with_unfolding_all exact info57) ?_)
      | ((with_reducible refine (HHv.out _).mono ?_)
         rintro e w3 ⟨rfl, hb3⟩
         have H2 := Lib.hid (H1.out.ext hb3)
         clear hb3))
    go_ret
    exact ⟨rfl, H2.out.below⟩
  have hhv : (decide (20 < f.tags.length) || decide (3000 < f.body.length)) = false := by simpa using hhv
  have hbd : f.tags.length ≤ 20 ∧ f.body.length ≤ 3000 := by simpa using hhv
  rw [hhv] at HHv
  obtain ⟨htl, hbl⟩ := hbd
  clear hhv
  have HW : Hid (∀ W, Below w.heap.size w W → Calls Tryd.prog 26 #[.agg (f.vals (.slice A f.tags.length cap)).toArray] W fun e w' => e = .returned (if f.okB = true then .tuple #[.string ⟨f.bytes.toArray⟩, .nilIface] else .tuple #[.string ⟨#[]⟩, .iface 32 (.int .i64 1)]) ∧ Below W.heap.size W w') := Lib.hid (fun W h => frWrite_any f A cap W (by omega) ((Hr.out.below h (Nat.le_refl _)).more h.size))
  cases hok : f.okB
  · rw [hok] at HW
    simp only [Bool.false_eq_true, if_false] at HW
    clear hok
    go_enter Tryd.func10, Tryd.ntmps10
    go_upto_region 1 with (fail)
    generalize World.alloc _ _ = w1 at *
    go_upto_region 6 with (first
      | ((with_reducible refine (HFr.out _ H0.out.below).mono ?_)
         rintro e w2 ⟨rfl, hb2⟩
         have H1 := Lib.hid (H0.out.ext hb2)
         clear hb2)
      | (with_reducible refine wpList_load_rng (ty := 57) (f.vals (.slice A f.tags.length cap)) (by with_unfolding_all rfl) (Blk.box (H2.out.at 0 rfl)).range Tryd.underlying57 (by with_unfolding_all rfl) (by with_unfolding_all exact info57) ?_)
      | (with_reducible refine wpList_load_rng (ty := 57) (f.vals (.slice A f.tags.length cap)) (by with_unfolding_all rfl) (Blk.box (H1.out.at 0 rfl)).range Tryd.underlying57 (by with_unfolding_all rfl) (by with_unfolding_all exact info57) ?_)
      | ((with_reducible refine (HHv.out _).mono ?_)
         rintro e w3 ⟨rfl, hb3⟩
         have H2 := Lib.hid (H1.out.ext hb3)
         clear hb3)
      | ((with_reducible refine (HW.out _ H2.out.below).mono ?_)
         rintro e w4 ⟨rfl, hb4⟩
         have H3 := Lib.hid (H2.out.ext hb4)
         clear hb4))
    clear H0 H1 H2
    go_wp2_with fail
    go_ret
    exact ⟨rfl, H3.out.below⟩
  rw [hok] at HW
  simp only [if_true] at HW
  have hlb := Fu.bytes_len f
  have hok' := hok
  simp only [Fu.okB, Bool.and_eq_true, decide_eq_true_eq] at hok'
  have hl2 : f.bytes.length ≤ 2000 := by rw [hlb]; exact hok'.2.2.1
  have hzl : (List.replicate (60 - f.bytes.length) (0 : UInt8)).length = 60 - f.bytes.length := List.length_replicate
  have hZl2 : f.bytes.length + (List.replicate (60 - f.bytes.length) (0 : UInt8)).length ≤ 2000 := by rw [hzl]; omega
  have HPd := Lib.hid (fun W => pad_any f.bytes (by omega) W)
  have HPd2 : Hid (∀ W, Calls Tryd.prog 32 #[.string ⟨(f.bytes ++ List.replicate (60 - f.bytes.length) 0).toArray⟩] W fun e w' => e = .returned (.string ⟨(f.bytes ++ List.replicate (60 - f.bytes.length) 0).toArray⟩) ∧ Below W.heap.size W w') := Lib.hid (fun W => by
    have := pad_any (f.bytes ++ List.replicate (60 - f.bytes.length) 0) (by rw [List.length_append]; omega) W
    rw [show 60 - (f.bytes ++ List.replicate (60 - f.bytes.length) (0 : UInt8)).length = 0 by rw [List.length_append, hzl]; omega, List.replicate_zero, List.append_nil] at this
    exact this)
  have HK1 : Hid (f.kind = 1 → ∃ f3 : Fu, f3 = { f with body := f.body ++ List.replicate (60 - f.bytes.length) 0 } ∧ readFrM (f.bytes ++ List.replicate (60 - f.bytes.length) 0) = (f3, none)) := Lib.hid (fun h => by
    obtain ⟨a, b⟩ := ok_body hok h hZl2
    exact ⟨_, rfl, by rw [← b]; exact readFr_bytes0 _ a⟩)
  have HK2 : Hid (f.kind ≠ 1 → readFrM (f.bytes ++ List.replicate (60 - f.bytes.length) 0) = (f, none)) := Lib.hid (fun h => readFr_bytes f _ hok (fun h2 => absurd h2 h) (by rw [hzl] at hZl2; exact hZl2))
  have hmx : max (f.bytes.length : Int) 60 = (f.bytes.length : Int) + ((List.replicate (60 - f.bytes.length) (0 : UInt8)).length : Int) := by rw [hzl]; omega
  clear hok hok' hlb hzl
  generalize List.replicate (60 - f.bytes.length) (0 : UInt8) = Z at *
  generalize f.bytes = S at *
  have hI9 : ¬ (S.length : Int) + (Z.length : Int) < (S.length : Int) := by omega
  have hdz : (List.take (S.length + Z.length) (S ++ Z)).drop S.length = Z := by rw [← List.length_append, List.take_length, List.drop_left' rfl]
  have hIa : (S.length : Int) ≤ (S.length : Int) + (Z.length : Int) := by omega
  go_enter Tryd.func10, Tryd.ntmps10
  go_upto_region 1 with (fail)
  generalize World.alloc _ _ = w1 at *
  go_upto_region 6 with (first
    | ((with_reducible refine (HFr.out _ H0.out.below).mono ?_)
       rintro e w2 ⟨rfl, hb2⟩
       have H1 := Lib.hid (H0.out.ext hb2)
       clear hb2)
    | (with_reducible refine wpList_load_rng (ty := 57) (f.vals (.slice A f.tags.length cap)) (by with_unfolding_all rfl) (Blk.box (H2.out.at 0 rfl)).range Tryd.underlying57 (by with_unfolding_all rfl) (by with_unfolding_all exact info57) ?_)
    | (with_reducible refine wpList_load_rng (ty := 57) (f.vals (.slice A f.tags.length cap)) (by with_unfolding_all rfl) (Blk.box (H1.out.at 0 rfl)).range Tryd.underlying57 (by with_unfolding_all rfl) (by with_unfolding_all exact info57) ?_)
    | ((with_reducible refine (HHv.out _).mono ?_)
       rintro e w3 ⟨rfl, hb3⟩
       have H2 := Lib.hid (H1.out.ext hb3)
       clear hb3)
    | ((with_reducible refine (HW.out _ H2.out.below).mono ?_)
       rintro e w4 ⟨rfl, hb4⟩
       have H3 := Lib.hid (H2.out.ext hb4)
       clear hb4))
  clear H0 H1 H2
  go_upto_region 11 with (first
    | ((with_reducible refine (HPd.out _).mono ?_)
       rintro e w5 ⟨rfl, hb5⟩
       have H5 := Lib.hid (H3.out.ext hb5)
       clear hb5))
  go_wp2_with fail
  refine (frRead_any (S ++ Z) (by rw [List.length_append]; omega) w5 (HE.out.ext3 H5.out.below)).mono ?_
  rintro e w6 ⟨hg, hb6⟩
  have H6 := Lib.hid (H5.out.ext hb6)
  clear hb6 H5 H3 HPd HW HHv HFr
  by_cases hk1 : f.kind = 1
  · obtain ⟨f3, hf3, hrd⟩ := HK1.out hk1
    obtain ⟨A2, cap2, he, hsl⟩ := hg.1 _ hrd
    have h3t : f3.tags = f.tags := by rw [hf3]
    rw [h3t] at he hsl
    subst he
    have Hsl := Lib.hid hsl
    have Hf3 := Lib.hid hf3
    have H3t := Lib.hid h3t
    have Hk1 := Lib.hid hk1
    clear hg hrd hsl hf3 h3t hk1 HK1 HK2
    go_upto_region 12 with (first
      | (with_reducible refine wpList_store_blk (ty := 57) (o := 0) _ (f3.vals (.slice A2 f.tags.length cap2)) (by with_unfolding_all rfl) (by with_unfolding_all rfl) (Blk.new w6 zFu 57) (by with_unfolding_all exact Nat.le_refl _) (by with_unfolding_all exact info57) (Fu.one _ _ rfl) (fun W7 hBW7 hoW7 => ?_)))
    have H7 : Hid (St w.heap.size w W7 [bk w6.heap.size 57 (f3.vals (.slice A2 f.tags.length cap2)), bk w.heap.size 57 (f.vals (.slice A f.tags.length cap))]) := Lib.hid ((H6.out.alloc zFu 57).sets (L' := f3.vals (.slice A2 f.tags.length cap2)) hBW7 hoW7)
    obtain ⟨hb7, _⟩ := Only.fresh hoW7
    have hs7 := (Hsl.out.below hb7 (Nat.le_refl _)).more hb7.size
    have Hs7 := Lib.hid hs7
    clear hBW7 hoW7 hb7 hs7 Hsl H6
    generalize w6.heap.size = G at *
    have k13 := (fu_in (Blk.box (H7.out.at 1 rfl))).kind
    rw [Hk1.out] at k13
    have c20 := (fu_in (Blk.box (H7.out.at 1 rfl))).body
    have z20 := (H7.out.pull 1 rfl).frozen 20
    go_upto_region 13 with (fail)
    refine wp_region_last (fun X => X.cell? ⟨w.heap.size, 20, none⟩ = some (.string ⟨f.body.toArray⟩)) 8 (by kernel_rfl) c20 (fun hHeld => ?_)
    refine wpAnyG_takeG 0 (oi := ?o27) ?v27 ?hi27 (by kernel_rfl) (by kernel_rfl) (by decide) (by kernel_rfl) (by kernel_rfl) ?hq27 ?hg27 ?hy27 (by assumption) ?hk27
    case hi27 => (simp only [List.getElem?_toArray, List.getElem?_cons_succ, List.getElem?_cons_zero]; rfl)
    case hq27 => exact fun _ _ _ h => h
    case hg27 => (first | with_unfolding_all rfl | (go_simp; with_unfolding_all rfl))
    case hy27 => (intro X hX; (first | obtain ⟨hXa, hXb, hXc, hXd, hXe⟩ := hX | obtain ⟨hXa, hXb, hXc, hXd⟩ := hX | obtain ⟨hXa, hXb, hXc⟩ := hX | obtain ⟨hXa, hXb⟩ := hX | skip); go_simp; try with_reducible rfl)
    try simp only [Act.put, List.setIfInBounds_toArray, List.set_cons_zero, List.set_cons_succ]
    refine wpAnyG_takeG 2 (oi := ?o28) ?v28 ?hi28 (by kernel_rfl) (by kernel_rfl) (by decide) (by kernel_rfl) (by kernel_rfl) ?hq28 ?hg28 ?hy28 (by assumption) ?hk28
    case hi28 => (simp only [List.getElem?_toArray, List.getElem?_cons_succ, List.getElem?_cons_zero]; rfl)
    case hq28 => exact fun _ _ _ h => h
    case hg28 => (first | with_unfolding_all rfl | (go_simp; with_unfolding_all rfl))
    case hy28 => (intro X hX; (first | obtain ⟨hXa, hXb, hXc, hXd, hXe⟩ := hX | obtain ⟨hXa, hXb, hXc, hXd⟩ := hX | obtain ⟨hXa, hXb, hXc⟩ := hX | obtain ⟨hXa, hXb⟩ := hX | skip); go_simp; try with_reducible rfl)
    try simp only [Act.put, List.setIfInBounds_toArray, List.set_cons_zero, List.set_cons_succ]
    refine wpAnyG_takeG 3 (oi := ?o29) ?v29 ?hi29 (by kernel_rfl) (by kernel_rfl) (by decide) (by kernel_rfl) (by kernel_rfl) ?hq29 ?hg29 ?hy29 (by assumption) ?hk29
    case hi29 => (simp only [List.getElem?_toArray, List.getElem?_cons_succ, List.getElem?_cons_zero]; rfl)
    case hq29 => exact fun _ _ _ h => h
    case hg29 => (first | with_unfolding_all rfl | (go_simp; with_unfolding_all rfl))
    case hy29 => (intro X hX; (first | obtain ⟨hXa, hXb, hXc, hXd, hXe⟩ := hX | obtain ⟨hXa, hXb, hXc, hXd⟩ := hX | obtain ⟨hXa, hXb, hXc⟩ := hX | obtain ⟨hXa, hXb⟩ := hX | skip); go_simp; try with_reducible rfl)
    try simp only [Act.put, List.setIfInBounds_toArray, List.set_cons_zero, List.set_cons_succ]
    refine wpAnyG_takeG 1 (oi := ?o30) ?v30 ?hi30 (by kernel_rfl) (by kernel_rfl) (by decide) (by kernel_rfl) (by kernel_rfl) ?hq30 ?hg30 ?hy30 (by assumption) ?hk30
    case hi30 => (simp only [List.getElem?_toArray, List.getElem?_cons_succ, List.getElem?_cons_zero]; rfl)
    case hq30 => exact fun _ _ _ h => h
    case hg30 => (first | with_unfolding_all rfl | (go_simp; with_unfolding_all rfl))
    case hy30 => (intro X hX; (first | obtain ⟨hXa, hXb, hXc, hXd, hXe⟩ := hX | obtain ⟨hXa, hXb, hXc, hXd⟩ := hX | obtain ⟨hXa, hXb, hXc⟩ := hX | obtain ⟨hXa, hXb⟩ := hX | skip); go_simp; try with_reducible rfl)
    try simp only [Act.put, List.setIfInBounds_toArray, List.set_cons_zero, List.set_cons_succ]
    refine wpAnyG_takeG 4 (oi := ?o31) ?v31 ?hi31 (by kernel_rfl) (by kernel_rfl) (by decide) (by kernel_rfl) (by kernel_rfl) ?hq31 ?hg31 ?hy31 (by assumption) ?hk31
    case hi31 => (simp only [List.getElem?_toArray, List.getElem?_cons_succ, List.getElem?_cons_zero]; rfl)
    case hq31 => exact fun _ _ _ h => h
    case hg31 => (first | with_unfolding_all rfl | (go_simp; with_unfolding_all rfl))
    case hy31 => (intro X hX; (first | obtain ⟨hXa, hXb, hXc, hXd, hXe⟩ := hX | obtain ⟨hXa, hXb, hXc, hXd⟩ := hX | obtain ⟨hXa, hXb, hXc⟩ := hX | obtain ⟨hXa, hXb⟩ := hX | skip); go_simp; try with_reducible rfl)
    try simp only [Act.put, List.setIfInBounds_toArray, List.set_cons_zero, List.set_cons_succ]
    refine wpAnyG_takeG 5 (oi := ?o32) ?v32 ?hi32 (by kernel_rfl) (by kernel_rfl) (by decide) (by kernel_rfl) (by kernel_rfl) ?hq32 ?hg32 ?hy32 (by assumption) ?hk32
    case hi32 => (simp only [List.getElem?_toArray, List.getElem?_cons_succ, List.getElem?_cons_zero]; rfl)
    case hq32 => exact fun _ _ _ h => h
    case hg32 => (first | with_unfolding_all rfl | (go_simp; with_unfolding_all rfl))
    case hy32 => (intro X hX; (first | obtain ⟨hXa, hXb, hXc, hXd, hXe⟩ := hX | obtain ⟨hXa, hXb, hXc, hXd⟩ := hX | obtain ⟨hXa, hXb, hXc⟩ := hX | obtain ⟨hXa, hXb⟩ := hX | skip); go_simp; try with_reducible rfl)
    try simp only [Act.put, List.setIfInBounds_toArray, List.set_cons_zero, List.set_cons_succ]
    try rw [hdz]
    refine wpAnyG_takeG 6 (oi := ?o33) (.string ⟨((f.body) ++ (Z)).toArray⟩) ?hi33 (by kernel_rfl) (by kernel_rfl) (by decide) (by kernel_rfl) (by kernel_rfl) ?hq33 ?hg33 ?hy33 (by assumption) ?hk33
    case hi33 => (simp only [List.getElem?_toArray, List.getElem?_cons_succ, List.getElem?_cons_zero]; rfl)
    case hq33 => exact fun _ _ _ h => h
    case hg33 => (first | with_unfolding_all rfl | (go_simp; with_unfolding_all rfl))
    case hy33 => exact fun X hX => exec_addS (f.body) (Z) (by with_unfolding_all rfl) (by with_unfolding_all rfl) (by omega)
    try simp only [Act.put, List.setIfInBounds_toArray, List.set_cons_zero, List.set_cons_succ]
    refine wpAnyG_takeG 7 (oi := ?o35) ?v35 ?hi35 (by kernel_rfl) (by kernel_rfl) (by decide) (by kernel_rfl) (by kernel_rfl) ?hq35 ?hg35 ?hy35 (by assumption) ?hk35
    case hi35 => (simp only [List.getElem?_toArray, List.getElem?_cons_succ, List.getElem?_cons_zero]; rfl)
    case hq35 => exact fun _ _ _ h => h
    case hg35 => (first | with_unfolding_all rfl | (go_simp; with_unfolding_all rfl))
    case hy35 => (intro X hX; (first | obtain ⟨hXa, hXb, hXc, hXd, hXe⟩ := hX | obtain ⟨hXa, hXb, hXc, hXd⟩ := hX | obtain ⟨hXa, hXb, hXc⟩ := hX | obtain ⟨hXa, hXb⟩ := hX | skip); go_simp; try with_reducible rfl)
    try simp only [Act.put, List.setIfInBounds_toArray, List.set_cons_zero, List.set_cons_succ]
    refine wpAnyG_one 8 (o := ?o36) (by kernel_rfl) ?hi36 ?hg36 ?hk36
    case hi36 => (simp only [List.getElem?_toArray, List.getElem?_cons_succ, List.getElem?_cons_zero]; rfl)
    case hg36 => rfl
    intro K hK
    go_simp
    refine hK.out _ _ (fun h => absurd rfl h) (fun _ => ?_)
    refine wpAnyG_done (by kernel_rfl) ?_ _
    have e8 : (f.vals (.slice A f.tags.length cap)).set 20 (.string ⟨(f.body ++ Z).toArray⟩) = f3.vals (.slice A f.tags.length cap) := by rw [Hf3.out]; rfl
    have H8 := (H7.out.pull 1 rfl).set 20 (.string ⟨(f.body ++ Z).toArray⟩) (by rw [Fu.len]; decide)
    rw [e8] at H8
    have hs2 : SlRow (W7.setCell ⟨w.heap.size, 20, none⟩ (.string ⟨(f.body ++ Z).toArray⟩)) W7.heap.size 4 A2 (f.tags.map Tk.vals) := sl_setCell Hs7.out c20
    have hsz : (W7.setCell ⟨w.heap.size, 20, none⟩ (.string ⟨(f.body ++ Z).toArray⟩)).heap.size = W7.heap.size := by simp [World.setCell]
    rw [← hsz] at hs2
    have hs1 := (Hr.out.below H8.below (Nat.le_refl _)).more H8.below.size
    have H8 := Lib.hid H8
    clear hK e8 H7 c20 z20 hsz

    generalize World.setCell _ _ _ = w8 at *

    have HSm : Hid (Calls Tryd.prog 29 #[.agg (f3.vals (.slice A f.tags.length cap)).toArray, .agg (f3.vals (.slice A2 f.tags.length cap2)).toArray] w8.drew fun e w' => e = .returned (.bool true) ∧ Below w8.drew.heap.size w8.drew w') := Lib.hid (by
      have := frSame_yes f3 A A2 cap cap2 w8.drew (by rw [H3t.out]; omega) (by rw [H3t.out]; exact hs1) (by rw [H3t.out]; exact hs2)
      rw [H3t.out] at this
      exact this)
    have H8 := Lib.hid H8.out.drew
    clear hs1 hs2
    generalize w8.drew = w8 at *
    go_wp2_with (first
      | (with_reducible refine wpList_load_rngG (ty := 57) (f3.vals (.slice A f.tags.length cap)) (by with_unfolding_all rfl) (by with_unfolding_all rfl) (Blk.box (H8.out.at 0 rfl)).range Tryd.underlying57 (by with_unfolding_all rfl) (by with_unfolding_all exact info57) ?_)
      | (with_reducible refine wpList_load_rngG (ty := 57) (f3.vals (.slice A2 f.tags.length cap2)) (by with_unfolding_all rfl) (by with_unfolding_all rfl) (Blk.box (H8.out.at 1 rfl)).range Tryd.underlying57 (by with_unfolding_all rfl) (by with_unfolding_all exact info57) ?_)
      | ((with_reducible refine HSm.out.mono ?_)
         rintro e w9 ⟨rfl, hb9⟩
         have H9 := Lib.hid (H8.out.ext hb9)
         clear hb9)
      | ((with_reducible refine (HPd2.out _).mono ?_)
         rintro e w10 ⟨rfl, hb10⟩
         have H10 := Lib.hid (H9.out.ext hb10)
         clear hb10))
    go_ret
    exact ⟨rfl, H10.out.below⟩
  · have hrd := HK2.out hk1
    obtain ⟨A2, cap2, rfl, hsl⟩ := hg.1 _ hrd
    have hk2 : (f.kind == 1) = false := by simp [hk1]
    have Hsl := Lib.hid hsl
    clear hg hrd hsl hk1 HK1 HK2
    go_upto_region 12 with (first
      | (with_reducible refine wpList_store_blk (ty := 57) (o := 0) _ (f.vals (.slice A2 f.tags.length cap2)) (by with_unfolding_all rfl) (by with_unfolding_all rfl) (Blk.new w6 zFu 57) (by with_unfolding_all exact Nat.le_refl _) (by with_unfolding_all exact info57) (Fu.one _ _ rfl) (fun W7 hBW7 hoW7 => ?_)))
    have H7 : Hid (St w.heap.size w W7 [bk w6.heap.size 57 (f.vals (.slice A2 f.tags.length cap2)), bk w.heap.size 57 (f.vals (.slice A f.tags.length cap))]) := Lib.hid ((H6.out.alloc zFu 57).sets (L' := f.vals (.slice A2 f.tags.length cap2)) hBW7 hoW7)
    obtain ⟨hb7, _⟩ := Only.fresh hoW7
    have hs1 := (Hr.out.below H7.out.below (Nat.le_refl _)).more H7.out.below.size
    have hs2 := (Hsl.out.below hb7 (Nat.le_refl _)).more hb7.size
    have HSm : Hid (Calls Tryd.prog 29 #[.agg (f.vals (.slice A f.tags.length cap)).toArray, .agg (f.vals (.slice A2 f.tags.length cap2)).toArray] W7 fun e w' => e = .returned (.bool true) ∧ Below W7.heap.size W7 w') := Lib.hid (frSame_yes f A A2 cap cap2 W7 (by omega) hs1 hs2)
    clear hBW7 hoW7 hb7 hs1 hs2 Hsl H6
    generalize w6.heap.size = G at *
    have k13 := (fu_in (Blk.box (H7.out.at 1 rfl))).kind
    go_wp2_with (first
      | (with_reducible refine wpList_load_rngG (ty := 57) (f.vals (.slice A f.tags.length cap)) (by with_unfolding_all rfl) (by with_unfolding_all rfl) (Blk.box (H7.out.at 1 rfl)).range Tryd.underlying57 (by with_unfolding_all rfl) (by with_unfolding_all exact info57) ?_)
      | (with_reducible refine wpList_load_rngG (ty := 57) (f.vals (.slice A2 f.tags.length cap2)) (by with_unfolding_all rfl) (by with_unfolding_all rfl) (Blk.box (H7.out.at 0 rfl)).range Tryd.underlying57 (by with_unfolding_all rfl) (by with_unfolding_all exact info57) ?_)
      | ((with_reducible refine HSm.out.mono ?_)
         rintro e w8 ⟨rfl, hb8⟩
         have H8 := Lib.hid (H7.out.ext hb8)
         clear hb8)
      | ((with_reducible refine (HPd2.out _).mono ?_)
         rintro e w9 ⟨rfl, hb9⟩
         have H9 := Lib.hid (H8.out.ext hb9)
         clear hb9))
    go_ret
    exact ⟨rfl, H9.out.below⟩
end Go.Proofs.YteibhcocldihbaaDoor

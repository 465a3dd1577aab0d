/- Ports and frames in memory; items of many blocks. -/
import Derived.Test.YtoenlcmngdpkmaaBr0
import Derived.Test.YtoenlcmngdpkmaaLn7
import Derived.Test.YtoenlcmngdpkmaaOpenA
namespace Go.Proofs.Ytoenlcmngdpkmaa
open Go.RowKit Go.ChangeShapes Go.WideShapes Go.Deep
/-- The block of a slice that is not empty. -/
def blkOf : Value → List Nat
  | .slice (some ⟨g, _, _⟩) (_ + 1) _ => [g]
  | _ => []
/-- A slice of rows, from its block's first cell on. -/
def SlAt (w : World) (s : Nat) (v : Value) (C : List (List Value)) : Prop := ∃ A cap, v = .slice A C.length cap ∧ C.length ≤ cap ∧ (0 < C.length → ∃ g o, A = some ⟨g, o, none⟩ ∧ g < w.heap.size ∧ ∀ (k : Nat) (hk : k < C.length), w.rangeAt g (o + k * s) C[k])
theorem SlAt.row {w : World} {s : Nat} {v : Value} {C : List (List Value)} (h : SlAt w s v C) : ∃ A cap, v = .slice A C.length cap ∧ C.length ≤ cap ∧ SlRow w w.heap.size s A C := h
theorem SlAt.below {w W : World} {s : Nat} {v : Value} {C : List (List Value)} (h : SlAt w s v C) (hb : Below w.heap.size w W) : SlAt W s v C := by
  obtain ⟨A, cap, e, hc, hr⟩ := h
  refine ⟨A, cap, e, hc, fun h0 => ?_⟩
  obtain ⟨g, o, e2, hg, hk⟩ := hr h0
  exact ⟨g, o, e2, Nat.lt_of_lt_of_le hg hb.size, fun k hk' => rangeAt_below (hk k hk') hb hg⟩
theorem range_loc {w W : World} {g o : Nat} {L : List Value} (h : w.rangeAt g o L) (hg : W.heap[g]? = w.heap[g]?) : W.rangeAt g o L := fun j u hj => by
  have := h j u hj
  rw [World.cell?_of_block (w := w) (a := ⟨g, o + j, none⟩) hg]
  exact this
theorem SlAt.loc {w W : World} {s : Nat} {v : Value} {C : List (List Value)} (h : SlAt w s v C) (hg : ∀ g ∈ blkOf v, W.heap[g]? = w.heap[g]?) (hs : w.heap.size ≤ W.heap.size) : SlAt W s v C := by
  obtain ⟨A, cap, e, hc, hr⟩ := h
  refine ⟨A, cap, e, hc, fun h0 => ?_⟩
  obtain ⟨g, o, e2, hl, hk⟩ := hr h0
  refine ⟨g, o, e2, Nat.lt_of_lt_of_le hl hs, fun k hk' => range_loc (hk k hk') (hg g ?_)⟩
  rw [e, e2]
  obtain ⟨n, hn⟩ : ∃ n, C.length = n + 1 := ⟨C.length - 1, by omega⟩
  rw [hn]
  exact List.mem_singleton.2 rfl
theorem SlAt.lt {w : World} {s : Nat} {v : Value} {C : List (List Value)} (h : SlAt w s v C) : ∀ g ∈ blkOf v, g < w.heap.size := by
  obtain ⟨A, cap, e, hc, hr⟩ := h
  intro g hg
  rw [e] at hg
  cases hn : C.length with
  | zero => rw [hn] at hg; cases A <;> simp [blkOf] at hg
  | succ n =>
    obtain ⟨g', o, e2, hl, _⟩ := hr (by omega)
    rw [hn, e2] at hg
    have : g = g' := List.mem_singleton.1 hg
    rw [this]; exact hl
/-- A slice that is one's own, and is only read. -/
def slI (s : Nat) (v : Value) (C : List (List Value)) : It where
  gs := blkOf v
  P w := SlAt w s v C
  lt w h := h.lt
  loc w W hg hs h := h.loc hg hs
/-- Items as one. -/
def allI (ks : List It) : It where
  gs := ks.flatMap (·.gs)
  P w := ∀ k ∈ ks, k.P w
  lt w h g hg := by
    obtain ⟨k, hk, hgk⟩ := List.mem_flatMap.1 hg
    exact k.lt w (h k hk) g hgk
  loc w W hg hs h k hk := k.loc w W (fun g hgk => hg g (List.mem_flatMap.2 ⟨k, hk, hgk⟩)) hs (h k hk)
def intv (l : List Int) : List (List Value) := l.map fun x => [Value.int .i64 x]
def Tg.vals (t : Tg) : List Value := [.bool t.s, .int .i64 t.pcp, .bool t.dei, .int .i64 t.vid]
theorem Tg.one (t : Tg) : ∀ v ∈ t.vals, v.oneCell' = true := fun v hv => by
  simp only [Tg.vals, List.mem_cons, List.not_mem_nil, or_false] at hv
  rcases hv with rfl | rfl | rfl | rfl <;> rfl
theorem Tg.len (t : Tg) : t.vals.length = 4 := rfl
def tagv (l : List Tg) : List (List Value) := l.map Tg.vals
/-- A port as it stands in memory: with its slices. -/
structure PRow where
  p : PSet
  iv : Value
  bv : Value
instance : Inhabited PRow := ⟨⟨default, .slice none 0 0, .slice none 0 0⟩⟩
def PRow.vals (q : PRow) : List Value := [.int .i64 q.p.pvid, q.iv, q.bv, .int .i64 q.p.state]
theorem PRow.len (q : PRow) : q.vals.length = 4 := rfl
def PRow.In (w : World) (q : PRow) : Prop := SlAt w 1 q.iv (intv q.p.ins) ∧ SlAt w 1 q.bv (intv q.p.bare)
theorem PRow.In.below {w W : World} {q : PRow} (h : q.In w) (hb : Below w.heap.size w W) : q.In W := ⟨h.1.below hb, h.2.below hb⟩
theorem PRow.one {w : World} {q : PRow} (h : q.In w) : ∀ v ∈ q.vals, v.oneCell' = true := fun v hv => by
  obtain ⟨⟨A, c, e, _⟩, ⟨A2, c2, e2, _⟩⟩ := h
  simp only [PRow.vals, List.mem_cons, List.not_mem_nil, or_false] at hv
  rcases hv with rfl | rfl | rfl | rfl
  · rfl
  · rw [e]; rfl
  · rw [e2]; rfl
  · rfl
/-- Ports that came in. -/
def IsPorts (w : World) (v : Value) (L : List PRow) : Prop := SlAt w 4 v (L.map PRow.vals) ∧ (∀ q ∈ L, q.In w) ∧ L.length ≤ 9223372036854775807 ∧ ∀ q ∈ L, q.p.ins.length ≤ 9223372036854775807 ∧ q.p.bare.length ≤ 9223372036854775807
theorem IsPorts.below {w W : World} {v : Value} {L : List PRow} (h : IsPorts w v L) (hb : Below w.heap.size w W) : IsPorts W v L := ⟨h.1.below hb, fun q hq => (h.2.1 q hq).below hb, h.2.2⟩
def prows (L : List PRow) : List Value := (L.map PRow.vals).flatten
/-- A bridge's ports: a row of one's own, and its ports' slices. -/
def portsI (sv : Value) (L : List PRow) : It where
  gs := sv.ownBlock.toList ++ L.flatMap fun q => blkOf q.iv ++ blkOf q.bv
  P w := w.ownsRow 0 44 4 sv L.length (prows L) ∧ ∀ q ∈ L, q.In w
  lt w h g hg := by
    rcases List.mem_append.1 hg with hg | hg
    · exact (h.1.lt g (by simpa [eq_comm] using hg)).2
    · obtain ⟨q, hq, hg⟩ := List.mem_flatMap.1 hg
      rcases List.mem_append.1 hg with hg | hg
      · exact (h.2 q hq).1.lt g hg
      · exact (h.2 q hq).2.lt g hg
  loc w W h hs hp := by
    refine ⟨⟨hp.1.1, ?_⟩, fun q hq => ⟨(hp.2 q hq).1.loc (fun g hg => h g (List.mem_append_right _ (List.mem_flatMap.2 ⟨q, hq, List.mem_append_left _ hg⟩))) hs, (hp.2 q hq).2.loc (fun g hg => h g (List.mem_append_right _ (List.mem_flatMap.2 ⟨q, hq, List.mem_append_right _ hg⟩))) hs⟩⟩
    rcases hp.1.2 with h' | ⟨g, cap, cur, e1, e2, hh, r⟩
    · exact .inl h'
    · exact .inr ⟨g, cap, cur, e1, e2, (h g (List.mem_append_left _ (by rw [e1]; simp [Value.ownBlock]))).trans hh, r⟩
/-- A frame's cells. -/
def Fm.vals (f : Fm) (tv : Value) : List Value := f.dst.vals ++ (f.src.vals ++ [tv, .int .i64 1, .int .i64 2048, .int .i64 0, .int .i64 0, .int .i64 0, .int .i64 0, .int .i64 0, .string ⟨f.body.toArray⟩])
theorem Fm.len (f : Fm) (tv : Value) : (f.vals tv).length = 21 := rfl
theorem prows_len (L : List PRow) : (prows L).length = L.length * 4 := by
  unfold prows
  rw [flat_len (s := 4) (fun c hc => by obtain ⟨m, _, rfl⟩ := List.mem_map.1 hc; rfl), List.length_map]
theorem prows_snoc (L : List PRow) (q : PRow) : prows (L ++ [q]) = prows L ++ q.vals := by simp [prows]
theorem elemPSet : ElemOk Try.prog 40 44 4 64 := by
  have h : (Try.prog.info? 44).map (fun i => (i.zero, i.size, i.bytes)) = some (some (.agg #[.int .i64 0, .slice none 0 0, .slice none 0 0, .int .i64 0]), 4, 64) := by kernel_rfl
  obtain ⟨i, hi, hz, hs, hb⟩ := info_parts h
  exact ⟨Try.underlying40, i, _, hi, hz, hs, hb, rfl, by decide⟩
theorem info44 : (Try.prog.info? 44).map (·.size) = some 4 := by kernel_rfl
theorem cI1 : Try.prog.cellsOf 3 = 1 := by kernel_rfl
theorem cSI : Try.prog.cellsOf 42 = 1 := by kernel_rfl
theorem cPS : Try.prog.cellsOf 44 = 4 := by kernel_rfl
theorem cTrip : Try.prog.cellsOf 52 = 6 := by kernel_rfl
theorem cBool : Try.prog.cellsOf 4 = 1 := by kernel_rfl
section
variable {H : Type} {enc : TypeId × Value → H} {w : World} {base : Nat} {sp : Nat → Bool} {hd : Bool}
theorem trod_ints {fuel : Nat} {cs : List Value} {x : DataW H × List MemPlace} (h : DataW.trod enc Try.prog w base sp hd fuel 42 cs = some x) :
    ∃ (v : Value) (l : List Int), cs = [v] ∧ SlAt w 1 v (intv l) ∧ l.length ≤ 9223372036854775807 := by
  obtain ⟨A, L, cap, e, hc, hm, _, hr⟩ := slice_rows (α := Int) Try.underlying42 cI1 (by omega) (fun n => [Value.int .i64 n]) (fun _ => True) (fun m cs y h => by
    obtain ⟨n, h1, _, h2⟩ := DataW.trod_int Try.underlying3 h
    exact ⟨n, h1, trivial⟩) h
  exact ⟨_, L, e, ⟨A, cap, by simp [intv], by simpa [intv] using hc, hr⟩, hm⟩
set_option maxRecDepth 100000 in
theorem trod_pset {fuel : Nat} {cs : List Value} {x : DataW H × List MemPlace} (h : DataW.trod enc Try.prog w base sp hd fuel 44 cs = some x) : ∃ q : PRow, cs = q.vals ∧ q.In w ∧ q.p.ins.length ≤ 9223372036854775807 ∧ q.p.bare.length ≤ 9223372036854775807 := by
  obtain ⟨xs, n, _, _, hl, hxl, hx⟩ := DataW.trod_struct Try.underlying44 h
  rw [cPS] at hl
  have hxl : xs.length = 4 := hxl
  have h0 : DataW.trod enc Try.prog w base sp hd n 3 ((cs.drop 0).take (Try.prog.cellsOf 3)) = xs[0]? := hx 0 _ rfl
  have h1 : DataW.trod enc Try.prog w base sp hd n 42 ((cs.drop 1).take (Try.prog.cellsOf 42)) = xs[1]? := hx 1 _ rfl
  have h2 : DataW.trod enc Try.prog w base sp hd n 42 ((cs.drop 2).take (Try.prog.cellsOf 42)) = xs[2]? := hx 2 _ rfl
  have h3 : DataW.trod enc Try.prog w base sp hd n 3 ((cs.drop 3).take (Try.prog.cellsOf 3)) = xs[3]? := hx 3 _ rfl
  rw [List.getElem?_eq_getElem (by omega)] at h0 h1 h2 h3
  rw [cI1] at h0 h3
  rw [cSI] at h1 h2
  obtain ⟨n0, h0, _⟩ := int_at Try.underlying3 h0
  obtain ⟨n3, h3, _⟩ := int_at Try.underlying3 h3
  obtain ⟨v1, l1, h1, i1, m1⟩ := trod_ints h1
  obtain ⟨v2, l2, h2, i2, m2⟩ := trod_ints h2
  have h1 := take_one h1
  have h2 := take_one h2
  refine ⟨⟨⟨n0, l1, l2, n3⟩, v1, v2⟩, ?_, ⟨i1, i2⟩, m1, m2⟩
  match cs, hl with
  | [c0, c1, c2, c3], _ =>
    simp only [List.getElem?_cons_zero, List.getElem?_cons_succ, Option.some.injEq] at h0 h1 h2 h3
    rw [h0, h1, h2, h3]; rfl
def Trp.vals (x : Trp) : List Value := [.int .i64 x.port, .int .i64 x.src, .int .i64 x.dst, .int .i64 x.vid, .int .i64 x.after, .bool x.many]
theorem Trp.len (x : Trp) : x.vals.length = 6 := rfl
theorem Trp.one (x : Trp) : ∀ v ∈ x.vals, v.oneCell' = true := fun v hv => by
  simp only [Trp.vals, List.mem_cons, List.not_mem_nil, or_false] at hv
  rcases hv with rfl | rfl | rfl | rfl | rfl | rfl <;> rfl
theorem bool_at {P : Program} {fuel : Nat} {e : TypeId} {cs : List Value} {i : Nat} {x : DataW H × List MemPlace} (hu : P.underlying e = some .bool) (h : DataW.trod enc P w base sp hd fuel e ((cs.drop i).take 1) = some x) : ∃ b, cs[i]? = some (.bool b) := by
  obtain ⟨n, h1, _⟩ := DataW.trod_bool hu h
  exact ⟨n, take_one h1⟩
set_option maxRecDepth 100000 in
theorem trod_trip {fuel : Nat} {cs : List Value} {x : DataW H × List MemPlace} (h : DataW.trod enc Try.prog w base sp hd fuel 52 cs = some x) : ∃ b : Trp, cs = b.vals := by
  obtain ⟨xs, n, _, _, hl, hxl, hx⟩ := DataW.trod_struct Try.underlying52 h
  rw [cTrip] at hl
  have hxl : xs.length = 6 := hxl
  have h0 : DataW.trod enc Try.prog w base sp hd n 3 ((cs.drop 0).take (Try.prog.cellsOf 3)) = xs[0]? := hx 0 _ rfl
  have h1 : DataW.trod enc Try.prog w base sp hd n 3 ((cs.drop 1).take (Try.prog.cellsOf 3)) = xs[1]? := hx 1 _ rfl
  have h2 : DataW.trod enc Try.prog w base sp hd n 3 ((cs.drop 2).take (Try.prog.cellsOf 3)) = xs[2]? := hx 2 _ rfl
  have h3 : DataW.trod enc Try.prog w base sp hd n 3 ((cs.drop 3).take (Try.prog.cellsOf 3)) = xs[3]? := hx 3 _ rfl
  have h4 : DataW.trod enc Try.prog w base sp hd n 3 ((cs.drop 4).take (Try.prog.cellsOf 3)) = xs[4]? := hx 4 _ rfl
  have h5 : DataW.trod enc Try.prog w base sp hd n 4 ((cs.drop 5).take (Try.prog.cellsOf 4)) = xs[5]? := hx 5 _ rfl
  rw [List.getElem?_eq_getElem (by omega)] at h0 h1 h2 h3 h4 h5
  rw [cI1] at h0 h1 h2 h3 h4
  rw [cBool] at h5
  obtain ⟨n0, h0, _⟩ := int_at Try.underlying3 h0
  obtain ⟨n1, h1, _⟩ := int_at Try.underlying3 h1
  obtain ⟨n2, h2, _⟩ := int_at Try.underlying3 h2
  obtain ⟨n3, h3, _⟩ := int_at Try.underlying3 h3
  obtain ⟨n4, h4, _⟩ := int_at Try.underlying3 h4
  obtain ⟨n5, h5⟩ := bool_at Try.underlying4 h5
  refine ⟨⟨n0, n1, n2, n3, n4, n5⟩, ?_⟩
  match cs, hl with
  | [c0, c1, c2, c3, c4, c5], _ =>
    simp only [List.getElem?_cons_zero, List.getElem?_cons_succ, Option.some.injEq] at h0 h1 h2 h3 h4 h5
    rw [h0, h1, h2, h3, h4, h5]; rfl
end
/-- Trips that came in. -/
def IsTrips (w : World) (v : Value) (L : List Trp) : Prop := SlAt w 6 v (L.map Trp.vals) ∧ L.length ≤ 9223372036854775807
theorem IsTrips.below {w W : World} {v : Value} {L : List Trp} (h : IsTrips w v L) (hb : Below w.heap.size w W) : IsTrips W v L := ⟨h.1.below hb, h.2⟩
def IsTrip (w : World) (v : Value) (t : Trp) : Prop := v = .agg t.vals.toArray
set_option maxRecDepth 100000 in
theorem open_ports {H : Type} {enc : TypeId × Value → H} {w : World} {r : Reach} {base : Nat} {b0 : Nat} {sp : Nat → Bool} {hd : Bool} {v : Value} {d : DataW H} {ps : List MemPlace}
    (hval : Value.okWide Try.prog w r base 40 v) (h : DataW.Trod enc Try.prog w b0 sp hd 40 v d ps) : ∃ L, IsPorts w v L := by
  obtain ⟨fuel, h⟩ := h
  obtain ⟨A, L, cap, e, hc, hm, hq, hr⟩ := slice_rows (α := PRow) Try.underlying40 cPS (by omega) PRow.vals (fun q => q.In w ∧ q.p.ins.length ≤ 9223372036854775807 ∧ q.p.bare.length ≤ 9223372036854775807) (fun m cs y h => trod_pset h) h
  exact ⟨L, ⟨A, cap, by rw [List.length_map]; exact slice_val Try.underlying40 hval e, by rw [List.length_map]; exact hc, hr⟩, fun q hx => (hq q hx).1, hm, fun q hx => (hq q hx).2⟩
set_option maxRecDepth 100000 in
theorem open_trips {H : Type} {enc : TypeId × Value → H} {w : World} {r : Reach} {base : Nat} {b0 : Nat} {sp : Nat → Bool} {hd : Bool} {v : Value} {d : DataW H} {ps : List MemPlace}
    (hval : Value.okWide Try.prog w r base 50 v) (h : DataW.Trod enc Try.prog w b0 sp hd 50 v d ps) : ∃ L, IsTrips w v L := by
  obtain ⟨fuel, h⟩ := h
  obtain ⟨A, L, cap, e, hc, hm, hq, hr⟩ := slice_rows (α := Trp) Try.underlying50 cTrip (by omega) Trp.vals (fun _ => True) (fun m cs y h => by
    obtain ⟨b, e⟩ := trod_trip h
    exact ⟨b, e, trivial⟩) h
  exact ⟨L, ⟨A, cap, by rw [List.length_map]; exact slice_val Try.underlying50 hval e, by rw [List.length_map]; exact hc, hr⟩, hm⟩
end Go.Proofs.Ytoenlcmngdpkmaa

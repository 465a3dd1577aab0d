/- Openers: []api.Vector. (Printed by tools/mknm7.py out of XOpenN.) prio.Best. (Printed by tools/mknm7.py.) The law PrioTop. (Printed by tools/mknm8.py.) -/
import Derived.Test.YtkicbabfgahmkaaDoorOpenA
import Derived.Test.YtkicbabfgahmkaaDoorNmA
import Derived.Test.YtkicbabfgahmkaaDoorItems
import Derived.Test.YtkicbabfgahmkaaDoorHeldG
import Derived.Test.YtkicbabfgahmkaaDoorBuild1
import Derived.Test.YtkicbabfgahmkaaDoorOpsA
set_option linter.all false
namespace Go.Proofs.YtkicbabfgahmkaaDoor
open Go.RowKit Go.ChangeShapes Go.WideShapes Go.Deep
section
variable {H : Type} {enc : TypeId × Value → H} {w : World} {base : Nat} {sp : Nat → Bool} {hd : Bool}
theorem c1 : Tryd.prog.cellsOf 5 = 1 := by kernel_rfl
theorem c3 : Tryd.prog.cellsOf 3 = 1 := by kernel_rfl
theorem cA : Tryd.prog.cellsOf 23 = 6 := by kernel_rfl
theorem cB : Tryd.prog.cellsOf 53 = 8 := by kernel_rfl
theorem cP : Tryd.prog.cellsOf 55 = 2 := by kernel_rfl
set_option maxRecDepth 100000 in
theorem trod_addr {fuel : Nat} {cs : List Value} {x : DataW H × List MemPlace} (h : DataW.trod enc Tryd.prog w base sp hd fuel 23 cs = some x) : ∃ a : Ad, cs = a.vals := by
  obtain ⟨xs, n, _, _, hl, hxl, hx⟩ := DataW.trod_array Tryd.underlying23 h
  rw [cA] at hl
  rw [c1] at hx
  have at_ : ∀ i, i < 6 → ∃ b : UInt8, cs[i]? = some (.int .u8 b.toNat) := fun i hi => by
    have h1 := hx i hi
    rw [List.getElem?_eq_getElem (by omega), Nat.mul_one] at h1
    obtain ⟨n, h2, h3⟩ := int_at Tryd.underlying5 h1
    obtain ⟨b, rfl⟩ := u8_of h3
    exact ⟨b, h2⟩
  obtain ⟨b0, h0⟩ := at_ 0 (by omega)
  obtain ⟨b1, h1⟩ := at_ 1 (by omega)
  obtain ⟨b2, h2⟩ := at_ 2 (by omega)
  obtain ⟨b3, h3⟩ := at_ 3 (by omega)
  obtain ⟨b4, h4⟩ := at_ 4 (by omega)
  obtain ⟨b5, h5⟩ := at_ 5 (by omega)
  refine ⟨⟨b0, b1, b2, b3, b4, b5⟩, list_ext_at hl fun i hi => ?_⟩
  have hi' : i < 6 := hi
  match i, hi' with
  | 0, _ => exact h0
  | 1, _ => exact h1
  | 2, _ => exact h2
  | 3, _ => exact h3
  | 4, _ => exact h4
  | 5, _ => exact h5
set_option maxRecDepth 100000 in
theorem trod_bridge {fuel : Nat} {cs : List Value} {x : DataW H × List MemPlace} (h : DataW.trod enc Tryd.prog w base sp hd fuel 53 cs = some x) : ∃ b : Br, cs = b.vals := by
  obtain ⟨xs, n, _, _, hl, hxl, hx⟩ := DataW.trod_struct Tryd.underlying53 h
  rw [cB] at hl
  have hxl : xs.length = 3 := hxl
  have h0 : DataW.trod enc Tryd.prog w base sp hd n 3 ((cs.drop 0).take (Tryd.prog.cellsOf 3)) = xs[0]? := hx 0 _ rfl
  have h1 : DataW.trod enc Tryd.prog w base sp hd n 3 ((cs.drop 1).take (Tryd.prog.cellsOf 3)) = xs[1]? := hx 1 _ rfl
  have h2 : DataW.trod enc Tryd.prog w base sp hd n 23 ((cs.drop 2).take (Tryd.prog.cellsOf 23)) = xs[2]? := hx 2 _ rfl
  rw [List.getElem?_eq_getElem (by omega)] at h0 h1 h2
  rw [c3] at h0 h1
  rw [cA] at h2
  obtain ⟨n0, h0, _⟩ := int_at Tryd.underlying3 h0
  obtain ⟨n1, h1, _⟩ := int_at Tryd.underlying3 h1
  obtain ⟨a, h2⟩ := trod_addr h2
  refine ⟨⟨n0, n1, a⟩, ?_⟩
  match cs, hl with
  | c0 :: c1 :: r, hl =>
    have hr : r.length = 6 := by simpa using hl
    simp only [List.getElem?_cons_zero, List.getElem?_cons_succ, Option.some.injEq] at h0 h1
    have h2' : r.take 6 = a.vals := h2
    rw [List.take_of_length_le (by omega)] at h2'
    rw [h0, h1, h2']; rfl
set_option maxRecDepth 100000 in
theorem trod_port {fuel : Nat} {cs : List Value} {x : DataW H × List MemPlace} (h : DataW.trod enc Tryd.prog w base sp hd fuel 55 cs = some x) : ∃ b : Pt, cs = b.vals := by
  obtain ⟨xs, n, _, _, hl, hxl, hx⟩ := DataW.trod_struct Tryd.underlying55 h
  rw [cP] at hl
  have hxl : xs.length = 2 := hxl
  have h0 : DataW.trod enc Tryd.prog w base sp hd n 3 ((cs.drop 0).take (Tryd.prog.cellsOf 3)) = xs[0]? := hx 0 _ rfl
  have h1 : DataW.trod enc Tryd.prog w base sp hd n 3 ((cs.drop 1).take (Tryd.prog.cellsOf 3)) = xs[1]? := hx 1 _ rfl
  rw [List.getElem?_eq_getElem (by omega)] at h0 h1
  rw [c3] at h0 h1
  obtain ⟨n0, h0, _⟩ := int_at Tryd.underlying3 h0
  obtain ⟨n1, h1, _⟩ := int_at Tryd.underlying3 h1
  refine ⟨⟨n0, n1⟩, ?_⟩
  match cs, hl with
  | [c0, c1], _ =>
    simp only [List.getElem?_cons_zero, List.getElem?_cons_succ, Option.some.injEq] at h0 h1
    rw [h0, h1]; rfl
theorem cVc : Tryd.prog.cellsOf 71 = 21 := by kernel_rfl
theorem split21 {cs : List Value} (h : cs.length = 21) : cs = (cs.drop 0).take 8 ++ ((cs.drop 8).take 1 ++ ((cs.drop 9).take 8 ++ ((cs.drop 17).take 2 ++ (cs.drop 19).take 2))) := by
  match cs, h with
  | [_, _, _, _, _, _, _, _, _, _, _, _, _, _, _, _, _, _, _, _, _], _ => rfl
set_option maxRecDepth 100000 in
theorem trod_vec {fuel : Nat} {cs : List Value} {x : DataW H × List MemPlace} (h : DataW.trod enc Tryd.prog w base sp hd fuel 71 cs = some x) : ∃ b : Vec, cs = b.vals := by
  obtain ⟨xs, n, _, _, hl, hxl, hx⟩ := DataW.trod_struct Tryd.underlying71 h
  rw [cVc] at hl
  have hxl : xs.length = 5 := hxl
  have h0 : DataW.trod enc Tryd.prog w base sp hd n 53 ((cs.drop 0).take (Tryd.prog.cellsOf 53)) = xs[0]? := hx 0 _ rfl
  have h1 : DataW.trod enc Tryd.prog w base sp hd n 3 ((cs.drop 8).take (Tryd.prog.cellsOf 3)) = xs[1]? := hx 1 _ rfl
  have h2 : DataW.trod enc Tryd.prog w base sp hd n 53 ((cs.drop 9).take (Tryd.prog.cellsOf 53)) = xs[2]? := hx 2 _ rfl
  have h3 : DataW.trod enc Tryd.prog w base sp hd n 55 ((cs.drop 17).take (Tryd.prog.cellsOf 55)) = xs[3]? := hx 3 _ rfl
  have h4 : DataW.trod enc Tryd.prog w base sp hd n 55 ((cs.drop 19).take (Tryd.prog.cellsOf 55)) = xs[4]? := hx 4 _ rfl
  rw [List.getElem?_eq_getElem (by omega)] at h0 h1 h2 h3 h4
  rw [cB] at h0 h2
  rw [cP] at h3 h4
  rw [c3] at h1
  obtain ⟨b0, h0⟩ := trod_bridge h0
  obtain ⟨n1, h1, _, _⟩ := DataW.trod_int Tryd.underlying3 h1
  obtain ⟨b2, h2⟩ := trod_bridge h2
  obtain ⟨p3, h3⟩ := trod_port h3
  obtain ⟨p4, h4⟩ := trod_port h4
  refine ⟨⟨b0, n1, b2, p3, p4⟩, ?_⟩
  have := split21 hl
  rw [h0, h1, h2, h3, h4] at this
  exact this
end
/-- Vectors that came in. -/
def IsVecs (w : World) (v : Value) (L : List Vec) : Prop := ∃ A cap, v = .slice A L.length cap ∧ L.length ≤ cap ∧ SlRow w w.heap.size 21 A (L.map Vec.vals)
set_option maxRecDepth 100000 in
theorem open_vecs {H : Type} {enc : TypeId × Value → H} {w : World} {r : Reach} {base : Nat} {b0 : Nat} {sp : Nat → Bool} {hd : Bool} {v : Value} {d : DataW H} {ps : List MemPlace}
    (hval : Value.okWide Tryd.prog w r base 74 v) (h : DataW.Trod enc Tryd.prog w b0 sp hd 74 v d ps) : ∃ L, IsVecs w v L := by
  obtain ⟨fuel, h⟩ := h
  obtain ⟨A, L, cap, e, hc, hm, hq, hr⟩ := slice_rows (α := Vec) Tryd.underlying74 cVc (by omega) Vec.vals (fun _ => True) (fun m cs y h => by
    obtain ⟨b, e⟩ := trod_vec h
    exact ⟨b, e, trivial⟩) h
  exact ⟨L, A, cap, slice_val Tryd.underlying74 hval e, hc, hr⟩
end Go.Proofs.YtkicbabfgahmkaaDoor
namespace Go.Proofs.YtkicbabfgahmkaaDoor
open Go.RowKit
/-! ### Plain: the place of the best -/
def bestN (l : List Vec) : Nat → Int
  | 0 => -1
  | k + 1 => if bestN l k < 0 then (k : Int) else if better (l.getD k default) (l.getD (bestN l k).toNat default) then (k : Int) else bestN l k
theorem better_irr (a : Vec) : better a a = false := by
  have := vec_line a a a
  cases h : better a a <;> simp [h] at this ⊢
theorem better_tot {a b : Vec} (h1 : better a b = false) (h2 : better b a = false) : a = b := by
  have := vec_line a b b
  by_cases h : a = b
  · exact h
  · simp [h1, h2, h] at this
theorem better_tr {a b c : Vec} (h1 : better a b = true) (h2 : better b c = true) : better a c = true := by
  have := vec_line a b c
  cases h : better a c
  · simp [h1, h2, h] at this
  · rfl
theorem better_as {a b : Vec} (h : better a b = true) : better b a = false := by
  cases h2 : better b a
  · rfl
  · have := better_tr h h2
    rw [better_irr] at this; cases this
structure Top (l : List Vec) (k : Nat) (m : Nat) : Prop where
  lt : m < k
  none : ∀ i, i < k → better (l.getD i default) (l.getD m default) = false
  first : ∀ i, i < m → better (l.getD m default) (l.getD i default) = true
theorem best_top (l : List Vec) : ∀ k, 0 < k → ∃ m : Nat, bestN l k = (m : Int) ∧ Top l k m := by
  intro k
  induction k with
  | zero => intro h; omega
  | succ k ih =>
    intro _
    by_cases h0 : k = 0
    · subst h0
      refine ⟨0, rfl, by omega, fun i hi => ?_, fun i hi => by omega⟩
      obtain rfl : i = 0 := by omega
      exact better_irr _
    · obtain ⟨m, e, t⟩ := ih (by omega)
      have e1 : bestN l (k + 1) = if better (l.getD k default) (l.getD m default) then (k : Int) else (m : Int) := by
        show (if bestN l k < 0 then (k : Int) else if better (l.getD k default) (l.getD (bestN l k).toNat default) then (k : Int) else bestN l k) = _
        rw [e, if_neg (by omega)]
        rfl
      cases hb : better (l.getD k default) (l.getD m default)
      · rw [hb] at e1
        refine ⟨m, e1, ⟨by have := t.lt; omega, fun i hi => ?_, t.first⟩⟩
        by_cases hik : i = k
        · subst hik; exact hb
        · exact t.none i (by omega)
      · rw [hb] at e1
        have hall : ∀ i, i < k → better (l.getD k default) (l.getD i default) = true := fun i hi => by
          cases hc : better (l.getD m default) (l.getD i default)
          · have := better_tot (t.none i hi) hc
            rw [this]; exact hb
          · exact better_tr hb hc
        refine ⟨k, e1, ⟨by omega, fun i hi => ?_, fun i hi => hall i hi⟩⟩
        by_cases hik : i = k
        · subst hik; exact better_irr _
        · exact better_as (hall i (by omega))
theorem best_app (l : List Vec) (v : Vec) : ∀ k, k ≤ l.length → bestN (l ++ [v]) k = bestN l k := by
  intro k
  induction k with
  | zero => intro _; rfl
  | succ k ih =>
    intro hk
    have h := ih (by omega)
    have e1 : (l ++ [v]).getD k default = l.getD k default := by simp [List.getD, List.getElem?_append_left (show k < l.length by omega)]
    show (if bestN (l ++ [v]) k < 0 then (k : Int) else if better ((l ++ [v]).getD k default) ((l ++ [v]).getD (bestN (l ++ [v]) k).toNat default) then (k : Int) else bestN (l ++ [v]) k) = (if bestN l k < 0 then (k : Int) else if better (l.getD k default) (l.getD (bestN l k).toNat default) then (k : Int) else bestN l k)
    rw [h, e1]
    by_cases h0 : bestN l k < 0
    · rw [if_pos h0, if_pos h0]
    · have hk0 : 0 < k := by
        rcases Nat.eq_zero_or_pos k with h' | h'
        · subst h'; exact absurd (show (-1 : Int) < 0 by decide) h0
        · exact h'
      obtain ⟨m, em, tm⟩ := best_top l k hk0
      have e2 : (l ++ [v]).getD (bestN l k).toNat default = l.getD (bestN l k).toNat default := by
        rw [em, Int.toNat_natCast]
        have := tm.lt
        simp [List.getD, List.getElem?_append_left (show m < l.length by omega)]
      rw [e2]
theorem best_snoc (l : List Vec) (v : Vec) (hl : 0 < l.length) {m : Nat} (hm : bestN l l.length = (m : Int)) : bestN (l ++ [v]) (l.length + 1) = if better v (l.getD m default) then (l.length : Int) else (m : Int) := by
  obtain ⟨m', em, tm⟩ := best_top l l.length hl
  obtain rfl : m = m' := by omega
  have h := best_app l v l.length (Nat.le_refl _)
  show (if bestN (l ++ [v]) l.length < 0 then (l.length : Int) else if better ((l ++ [v]).getD l.length default) ((l ++ [v]).getD (bestN (l ++ [v]) l.length).toNat default) then (l.length : Int) else bestN (l ++ [v]) l.length) = _
  rw [h, hm, if_neg (by omega), Int.toNat_natCast]
  have := tm.lt
  have e1 : (l ++ [v]).getD l.length default = v := by simp [List.getD]
  have e2 : (l ++ [v]).getD m default = l.getD m default := by simp [List.getD, List.getElem?_append_left this]
  rw [e1, e2]
theorem info71 : (Tryd.prog.info? 71).map (·.size) = some 21 := by kernel_rfl
theorem Vec.one (x : Vec) : ∀ v ∈ x.vals, v.oneCell' = true := fun v hv => by
  simp only [Vec.vals, List.mem_append, List.mem_cons] at hv
  rcases hv with hv | rfl | hv | hv | hv
  · exact Br.one _ v hv
  · rfl
  · exact Br.one _ v hv
  · exact Pt.one _ v hv
  · exact Pt.one _ v hv
theorem Vec.len (x : Vec) : x.vals.length = 21 := rfl
theorem sl_at {w : World} {g o s : Nat} {L : List Vec} {B : Nat} (h : SlRow w B s (some ⟨g, o, none⟩) (L.map Vec.vals)) (k : Nat) (hk : k < L.length) : g < B ∧ w.rangeAt g (o + k * s) (L.getD k default).vals := by
  obtain ⟨g', o', e, hg, hr⟩ := h (by rw [List.length_map]; omega)
  injection e with e
  injection e with e1 e2
  subst e1 e2
  have := hr k (by rw [List.length_map]; exact hk)
  have e : (L.map Vec.vals)[k]'(by rw [List.length_map]; exact hk) = (L.getD k default).vals := by simp [List.getD, hk]
  rw [e] at this
  exact ⟨hg, this⟩
set_option maxRecDepth 100000 in
set_option maxHeartbeats 4000000 in
theorem best_any (l : List Vec) (A : Option Addr) (cap : Nat) (w : World) (hn : l.length ≤ 100000) (hr : SlRow w w.heap.size 21 A (l.map Vec.vals)) :
    Calls Tryd.prog 43 #[.slice A l.length cap] w fun e w' => e = .returned (.int .i64 (bestN l l.length)) ∧ Below w.heap.size w w' := by
  obtain ⟨n, hlen⟩ : ∃ n, l.length = n := ⟨_, rfl⟩
  rw [hlen] at hn ⊢
  have Hr := Lib.hid hr
  have Hlen := Lib.hid hlen
  clear hr hlen
  go_enter Tryd.func43, Tryd.ntmps43
  go_upto_region 3 with (fail)
  go_loopw [3, 7] (fun s3 s7 wr => ∃ (k : Nat) (z : Int), k ≤ n ∧ s7 = .int .i64 (k : Int) ∧ s3 = .int .i64 z ∧ Hid (z = bestN l k) ∧ Hid (Below w.heap.size w wr)) (fun _ i _ => n - (intOf i).toNat)
  case atStart => exact ⟨0, -1, by omega, rfl, rfl, Lib.hid rfl, Lib.hid (Below.refl _ _)⟩
  case round =>
    obtain ⟨k, z, hk0, rfl, rfl, Hz, Hb⟩ := hrel
    by_cases hlt : k < n
    · have hI : (k : Int) < n := by omega
      by_cases h0 : k = 0
      · have hz : z = -1 := by rw [Hz.out, h0]; rfl
        have hz0 : z < 0 := by omega
        have Hn : Hid (((k : Nat) : Int) = bestN l (k + 1)) := Lib.hid (by rw [h0]; rfl)
        clear hz h0 Hz
        go_upto_region 5 with (fail)
        refine wp_region_ext (by kernel_rfl) (by kernel_rfl) ?_
        repeat (go_big_quiet_step (fail))
        refine wpQuiet_nil ?_
        rintro w4 ⟨⟨_, hb4⟩, rfl⟩
        try simp only [] at *
        have Hb4 := Lib.hid (Hb.out.trans (hb4.mono Hb.out.size))
        clear hb4
        go_wp2_with fail
        go_roundw
        case rel => exact ⟨k + 1, k, by omega, by go_num, rfl, Hn, Hb4⟩
        case measure => simp [intOf]; omega
      · obtain ⟨m, em, tm⟩ := best_top l k (by omega)
        have hzm : z = (m : Int) := by rw [Hz.out, em]
        have hmk := tm.lt
        subst hzm
        obtain ⟨g, o, rfl, hg, _⟩ := Hr.out (by rw [List.length_map, Hlen.out]; omega)
        have Rk := Lib.hid (rangeAt_below (sl_at Hr.out k (by rw [Hlen.out]; exact hlt)).2 Hb.out hg)
        have Rm := Lib.hid (rangeAt_below (sl_at Hr.out m (by rw [Hlen.out]; omega)).2 Hb.out hg)
        have lG : g < wr.heap.size := Nat.lt_of_lt_of_le hg Hb.out.size
        have hstep : bestN l (k + 1) = if better (l.getD k default) (l.getD m default) then (k : Int) else (m : Int) := by
          show (if bestN l k < 0 then (k : Int) else if better (l.getD k default) (l.getD (bestN l k).toNat default) then (k : Int) else bestN l k) = _
          rw [em, if_neg (by omega)]
          rfl
        have HX := Lib.hid (better_any (l.getD k default) (l.getD m default))
        have Hst := Lib.hid hstep
        clear hstep em tm Hz
        generalize better (l.getD k default) (l.getD m default) = x at *
        generalize l.getD k default = a at *
        generalize l.getD m default = b at *
        have hm0 : ¬ (m : Int) < 0 := by omega
        have hm1 : (0 : Int) ≤ (m : Int) := by omega
        have hI2 : (m : Int) < n := by omega
        go_upto_region 5 with (fail)
        have hm0 : ¬ (m : Int) < 0 := by omega
        have hm4 : decide ((m : Int) < 0) = false := by rw [decide_eq_false_iff_not]; omega
        refine wp_region_ext (by kernel_rfl) (by kernel_rfl) ?_
        repeat (go_big_quiet_step (fail))
        go_big_quiet_want
        with_reducible refine quiet_load_rng (b := ?b1) (off := ?o1) (ds := ?ds1) a.vals ?hx1 ?hr1 ?hu1 ?hd1 ?hi1 ?hk1
        case hx1 => rfl
        case hr1 => rintro _ ⟨y, rfl⟩; exact rangeAt_below Rk.out y.below lG
        case hu1 => exact Tryd.underlying71
        case hd1 => rfl
        case hi1 => exact info71
        go_simp
        go_big_quiet_on
        repeat (go_big_quiet_step (fail))
        go_big_quiet_want
        with_reducible refine quiet_load_rng (b := ?b2) (off := ?o2) (ds := ?ds2) b.vals ?hx2 ?hr2 ?hu2 ?hd2 ?hi2 ?hk2
        case hx2 => rfl
        case hr2 => rintro _ ⟨y, rfl⟩; exact rangeAt_below Rm.out y.below lG
        case hu2 => exact Tryd.underlying71
        case hd2 => rfl
        case hi2 => exact info71
        go_simp
        go_big_quiet_on
        repeat (go_big_quiet_step ((go_at_call 42; exact Calls.ext _ (HX.out _))))
        refine wpQuiet_nil ?_
        rintro w4 ⟨⟨_, hb4⟩, rfl⟩
        try simp only [] at *
        have Hb4 := Lib.hid (Hb.out.trans (hb4.mono Hb.out.size))
        clear hb4
        cases x
        · have Hn : Hid ((m : Int) = bestN l (k + 1)) := Lib.hid (by rw [Hst.out]; rfl)
          go_wp2_with fail
          go_roundw
          case rel => exact ⟨k + 1, m, by omega, by go_num, rfl, Hn, Hb4⟩
          case measure => simp [intOf]; omega
        · have Hn : Hid ((k : Int) = bestN l (k + 1)) := Lib.hid (by rw [Hst.out]; rfl)
          go_wp2_with fail
          go_roundw
          case rel => exact ⟨k + 1, k, by omega, by go_num, rfl, Hn, Hb4⟩
          case measure => simp [intOf]; omega
    · obtain rfl : k = n := by omega
      have hI : ¬ (k : Int) < k := by omega
      go_wp2_with fail
      go_ret
      exact ⟨by rw [Hz.out]; rfl, Hb.out⟩
end Go.Proofs.YtkicbabfgahmkaaDoor
namespace Go.Proofs.YtkicbabfgahmkaaDoor
open Go.RowKit
theorem wpAnyG_two {P : Program} {ops : Array Oper} {Q : Exit → Act → World → Prop} {md : Region.Mode} {S : World → Prop} {k : Nat} {fuel : Nat} {listed : Array Bool} {a : Act} {w : World} (i j : Nat) {o u : Oper} (hr : Region.ready md ops listed = [i, j]) (ho : ops[i]? = some o) (hu : ops[j]? = some u) (hgd : o.guard = none) (hgu : u.guard = none)
    (h : ∀ K' : Act → World → Prop, Shut (∀ a w, (i ≠ k → S w) → ((i ≠ k → S w) → wpAnyG P md ops Q S k fuel (listed.setIfInBounds i true) a w) → K' a w) → Oper.wp P o a w K' Q)
    (h2 : ∀ K' : Act → World → Prop, Shut (∀ a w, (j ≠ k → S w) → ((j ≠ k → S w) → wpAnyG P md ops Q S k fuel (listed.setIfInBounds j true) a w) → K' a w) → Oper.wp P u a w K' Q) :
    wpAnyG P md ops Q S k (fuel + 1) listed a w := by
  refine ⟨fun h0 => (by rw [hr] at h0; cases h0), fun q hq => ?_⟩
  rw [hr] at hq
  rcases List.mem_cons.1 hq with rfl | hq
  · unfold wpOp
    simp only [ho]
    rw [if_pos (by simp [Region.wanted, hgd])]
    exact .inl (h _ (fun a w h1 h2 => ⟨h1, h2 h1⟩))
  · rw [List.mem_singleton] at hq
    subst hq
    unfold wpOp
    simp only [hu]
    rw [if_pos (by simp [Region.wanted, hgu])]
    exact .inl (h2 _ (fun a w h1 h2 => ⟨h1, h2 h1⟩))
/-- A slice of one struct, as an operation. -/
theorem oper_build1 {P : Program} {d p : Tmp} {t t' : TypeId} {pos : String} {after : Array Edge} {a : Act} {w : World} {K : Act → World → Prop} {Q : Exit → Act → World → Prop} {e : TypeId} {size bytes : Nat} (L : List Value)
    (E : ElemOk P t e size bytes) (hx : a.eval (.tmp p) = .agg L.toArray) (hl : L.length = size) (hs : size ≤ 16777216)
    (h : K (a.put (some d) (.slice (some ⟨w.heap.size, 0, none⟩) 1 1)) (w.alloc (.cells L.toArray e))) :
    Oper.wp P ⟨some d, .buildSlice t 1 #[(0, .tmp p)], t', pos, after, none⟩ a w K Q := by
  unfold Oper.wp execOp
  have hr := run_buildSlice1 E L hl hs w
  simp only [List.map_toArray, List.map_cons, List.map_nil, hx, Sem.run_bind, Sem.run_map, hr]
  exact h
/-- 'append' as an operation, by what a call owns. -/
theorem oper_append_st {P : Program} {o : Oper} {a : Act} {w w0 : World} {K : Act → World → Prop} {Q : Exit → Act → World → Prop} {t e : TypeId} {size bytes n m c B : Nat} {v : Value} {from_ : Addr} {A : List It} (s x : Tmp) (xs news : List Value)
    (ho : o.op = .call { callee := .builtin .append, args := #[.tmp s, .tmp x], argTypes := #[t, t] })
    (E : ElemOk P t e size bytes) (H : St B w0 w (ownI e size v n xs :: A)) (hs : a.eval (.tmp s) = v) (hx : a.eval (.tmp x) = .slice (some from_) m c) (hr : ∀ j u, news[j]? = some u → w.cell? (from_.add j) = some u) (hl : news.length = m * size) (h1 : ∀ u ∈ news, u.oneCell' = true)
    (hm : 0 < m) (h63 : n + m ≤ maxLen) (hbytes : (n + m) * bytes ≤ 140737488355328)
    (h : ∀ g cap W, St B w0 W (ownI e size (.slice (some ⟨g, 0, none⟩) (n + m) cap) (n + m) (xs ++ news) :: A) → K (a.put o.dst (.slice (some ⟨g, 0, none⟩) (n + m) cap)) W) : o.wp P a w K Q := by
  obtain ⟨ht, i, z, hi, hz, hsz, hby, hzs, hpos⟩ := E
  refine wp_append_lies w (.tmp s) (.tmp x) t ho 0 e i z size bytes ht hi hz hsz hby hzs hpos v n xs hs H.head from_ m c news hx hl hr h1 hm h63 hbytes (Nat.zero_le _) _ rfl ?_
  intro g cap W h2 h3 h4 _
  exact h g cap W (H.grown h2 h3 h4)
def vrows (out : List Vec) : List Value := (out.map Vec.vals).flatten
theorem vrows_snoc (out : List Vec) (v : Vec) : vrows (out ++ [v]) = vrows out ++ v.vals := by simp [vrows]
def OwnVecs (w : World) (out : List Vec) (e : Ending) (w' : World) : Prop := ∃ v, e = .returned v ∧ w'.ownsRow w.heap.size 71 21 v out.length (vrows out) ∧ Below w.heap.size w w'
theorem elemVec : ElemOk Tryd.prog 74 71 21 88 := by
  have h : (Tryd.prog.info? 71).map (fun i => (i.zero, i.size, i.bytes)) = some (some (.agg #[.int .i64 0, .int .i64 0, .int .u8 0, .int .u8 0, .int .u8 0, .int .u8 0, .int .u8 0, .int .u8 0, .int .i64 0, .int .i64 0, .int .i64 0, .int .u8 0, .int .u8 0, .int .u8 0, .int .u8 0, .int .u8 0, .int .u8 0, .int .i64 0, .int .i64 0, .int .i64 0, .int .i64 0]), 21, 88) := by kernel_rfl
  obtain ⟨i, hi, hz, hs, hb⟩ := info_parts h
  exact ⟨Tryd.underlying74, i, _, hi, hz, hs, hb, rfl, by decide⟩
theorem wpList_append_rows {P : Program} {ops : Array Oper} {rest : List Oper} {d s x : Tmp} {t t' : TypeId} {pos : String} {after : Array Edge} {a : Act} {w : World} {Q : Exit → Act → World → Prop} {e : TypeId} {size bytes base n m c g o : Nat} {v : Value} (xs news : List Value)
    (E : ElemOk P t e size bytes) (hs : a.eval (.tmp s) = v) (hx : a.eval (.tmp x) = .slice (some ⟨g, o, none⟩) m c) (hown : w.ownsRow base e size v n xs) (hr : w.rangeAt g o news) (hl : news.length = m * size) (h1 : ∀ u ∈ news, u.oneCell' = true)
    (h63 : n + m ≤ maxLen) (hbytes : (n + m) * bytes ≤ 140737488355328) (hbase : base ≤ w.heap.size)
    (h : ∀ v' W, W.ownsRow base e size v' (n + m) (xs ++ news) → Grew base v w W → wpList P ops Q rest (a.put (some d) v') W) :
    wpList P ops Q (⟨some d, .call { callee := .builtin .append, args := #[.tmp s, .tmp x], argTypes := #[t, t] }, t', pos, after, none⟩ :: rest) a w := by
  obtain ⟨ht, i, z, hi, hz, hsz, hby, hzs, hpos⟩ := E
  refine wpList_append_own w rfl (.tmp s) (.tmp x) t rfl base e i z size bytes ht hi hz hsz hby hzs hpos v n xs hs hown ⟨g, o, none⟩ m c news hx hl ?_ h1 h63 hbytes hbase ?_
  · intro j u hj
    rw [Addr.add_mid]
    exact hr j u hj
  · intro v' W h2 h3 _
    exact h v' W h2 ⟨h3, fun k hk => (hown.lt k hk).1, hbase⟩
theorem vrows_len (V : List Vec) : (vrows V).length = V.length * 21 := by
  induction V with
  | nil => rfl
  | cons v r ih =>
    have : vrows (v :: r) = v.vals ++ vrows r := rfl
    rw [this, List.length_append, ih, Vec.len, List.length_cons]; omega
theorem vrows_one (V : List Vec) : ∀ u ∈ vrows V, u.oneCell' = true := by
  intro u hu
  unfold vrows at hu
  simp only [List.mem_flatten, List.mem_map] at hu
  obtain ⟨_, ⟨v, _, rfl⟩, hu⟩ := hu
  exact v.one u hu
theorem vrows_range {w : World} {g : Nat} : ∀ (V : List Vec) (o : Nat), (∀ (k : Nat) (hk : k < V.length), w.rangeAt g (o + k * 21) V[k].vals) → w.rangeAt g o (vrows V)
  | [], o, _ => fun j u hj => by simp [vrows] at hj
  | v :: r, o, h => fun j u hj => by
    have e : vrows (v :: r) = v.vals ++ vrows r := rfl
    rw [e] at hj
    by_cases hlt : j < 21
    · rw [List.getElem?_append_left (by rw [Vec.len]; exact hlt)] at hj
      have := h 0 (by simp) j u hj
      simpa using this
    · rw [List.getElem?_append_right (by rw [Vec.len]; omega), Vec.len] at hj
      have := vrows_range r (o + 21) (fun k hk => by
        have := h (k + 1) (by simpa using hk)
        rw [show o + (k + 1) * 21 = o + 21 + k * 21 by omega] at this
        simpa using this) (j - 21) u hj
      rw [show o + 21 + (j - 21) = o + j by omega] at this
      exact this
/-- A row of vectors of one's own, read. -/
theorem own_vecs {w : World} {base n : Nat} {v : Value} {V : List Vec} (h : w.ownsRow base 71 21 v n (vrows V)) (hn : V.length = n) :
    ∃ A cap, v = .slice A n cap ∧ n ≤ cap ∧ (0 < n → ∃ g, A = some ⟨g, 0, none⟩ ∧ base ≤ g ∧ g < w.heap.size) ∧ SlRow w w.heap.size 21 A (V.map Vec.vals) := by
  obtain ⟨A, cap, e1, e2, e3⟩ := own_row (C := V.map Vec.vals) h (fun c hc => by obtain ⟨v, _, rfl⟩ := List.mem_map.1 hc; rfl) (by rw [List.length_map]; exact hn)
  refine ⟨A, cap, e1, e2, fun hp => ?_, fun hp => ?_⟩
  · obtain ⟨g, a, b, c, _⟩ := e3 hp; exact ⟨g, a, b, c⟩
  · rw [List.length_map, hn] at hp
    obtain ⟨g, a, b, c, d⟩ := e3 hp
    exact ⟨g, 0, a, c, fun k hk => by rw [Nat.zero_add]; exact d k hk⟩
theorem sl_ext {w W : World} {s : Nat} {A : Option Addr} {C : List (List Value)} (h : SlRow w w.heap.size s A C) (hb : Below w.heap.size w W) : SlRow W W.heap.size s A C := by
  intro hn
  obtain ⟨g, o, e, hg, hr⟩ := h hn
  have := hb.size
  exact ⟨g, o, e, by omega, fun k hk => rangeAt_below (hr k hk) hb hg⟩
theorem vec_eql (x y : Vec) (W : World) : (binOp .eql 71 (.agg x.vals.toArray) (.agg y.vals.toArray)).run Tryd.prog W = .ok (.bool (decide (x = y))) W := by
  rw [run_eql_struct, show (10000 : Nat) = 9996 + 1 + 1 + 1 + 1 from rfl, vec_eqIn]; rfl
set_option maxRecDepth 100000 in
set_option maxHeartbeats 1000000 in
theorem cloneV_any (V : List Vec) (g o cap n : Nat) (hn : V.length = n) (h0 : 0 < n) (h12 : n ≤ 1000) (w : World) (hg : g < w.heap.size) (hr : ∀ (k : Nat) (hk : k < V.length), w.rangeAt g (o + k * 21) V[k].vals) :
    Calls Tryd.prog 44 #[.slice (some ⟨g, o, none⟩) n cap] w (OwnVecs w V) := by
  have Hr : Hid (w.rangeAt g o (vrows V)) := vrows_range V o hr
  have Hn := Lib.hid hn
  clear hr hn
  have hq := @Lib.run_eql_slice_nil Tryd.prog
  go_enter Tryd.func44, Tryd.ntmps44
  go_wp2_with (
    (with_reducible refine wpList_append_rows (t := 74) (v := .slice (some ⟨w.heap.size, 0, none⟩) 0 0) (base := w.heap.size) (n := 0) (m := n) (c := cap) (g := g) (o := o) [] (vrows V) elemVec ?hs ?hx ?ow ?hr ?hl ?h1 ?h63 ?hb ?hba ?hk)
    case hs => rfl
    case hx => rfl
    case ow => exact ⟨rfl, .inr ⟨w.heap.size, 0, #[], rfl, Nat.le_refl _, heap_alloc_new w _, Nat.le_refl 0, Nat.zero_le _, rfl, rfl⟩⟩
    case hr => exact rangeAt_below Hr.out ((Below.refl _ w).alloc (Nat.le_refl _) _) hg
    case hl => rw [vrows_len, Hn.out]
    case h1 => exact vrows_one V
    case h63 => unfold maxLen; omega
    case hb => omega
    case hba => simp
    intro v' w3 hown hgrew)
  have hb := hgrew.below ((Below.refl _ w).alloc (Nat.le_refl _) _)
  rw [Nat.zero_add, List.nil_append] at hown
  exact bodyPost_ret (v := v') (by simp [results, Tryd.results44, go_sem]) rfl ⟨_, rfl, by rw [Hn.out]; exact hown, hb⟩
/-- Clone, by what the caller owns. -/
theorem clone_st {B : Nat} {w0 w : World} {A : List It} (H : St B w0 w A) (V : List Vec) (g o cap n : Nat) (hn : V.length = n) (h0 : 0 < n) (h12 : n ≤ 1000) (hg : g < w.heap.size) (hr : ∀ (k : Nat) (hk : k < V.length), w.rangeAt g (o + k * 21) V[k].vals) :
    Calls Tryd.prog 44 #[.slice (some ⟨g, o, none⟩) n cap] w fun e w' => ∃ cv, e = .returned cv ∧ St B w0 w' (ownI 71 21 cv n (vrows V) :: A) := by
  refine (cloneV_any V g o cap n hn h0 h12 w hg hr).mono ?_
  rintro e w' ⟨cv, rfl, hown, hb⟩
  rw [hn] at hown
  refine ⟨cv, rfl, H.add hb ?_ (fun q hq => ?_)⟩
  · rcases hown with ⟨hl, h' | ⟨g', cap', cur, e1, _, r⟩⟩
    · exact ⟨hl, .inl h'⟩
    · exact ⟨hl, .inr ⟨g', cap', cur, e1, Nat.zero_le _, r⟩⟩
  · have hq : q ∈ cv.ownBlock.toList := hq
    exact (hown.lt q (by simpa [eq_comm] using hq)).1
/-- Best of one's own row. -/
theorem best_own {B : Nat} {w0 w : World} {A : List It} {sv : Value} {n : Nat} (V : List Vec) (H : St B w0 w (ownI 71 21 sv n (vrows V) :: A)) (hn : V.length = n) (h12 : n ≤ 1000) :
    Calls Tryd.prog 43 #[sv] w fun e w' => e = .returned (.int .i64 (bestN V n)) ∧ Below w.heap.size w w' := by
  obtain ⟨A', cap, rfl, _, _, hr⟩ := own_vecs (base := 0) H.head hn
  have := best_any V A' cap w (by omega) hr
  rw [hn] at this
  exact this
set_option maxRecDepth 100000 in
set_option maxHeartbeats 8000000 in
theorem law_PrioTop (v0 : Value) (l : List Vec) (v1 : Value) (v : Vec) (w : World) (hl : IsVecs w v0 l) (hv1 : v1 = .agg v.vals.toArray) (hV : Vars w) :
    Calls Tryd.prog 13 #[v0, v1] w fun e w' => e = .returned (.bool true) ∧ Below w.heap.size w w' := by
  subst hv1
  obtain ⟨A, cap, rfl, hcap, hr⟩ := hl
  have H0 := Lib.hid ((St.init w).alloc v.vals 71)
  have HA := Lib.hid (named_any _ (hV.ext H0.out.below))
  have Hr := Lib.hid hr
  clear hV hr hcap
  obtain ⟨n, hlen⟩ : ∃ n, l.length = n := ⟨_, rfl⟩
  have Hlen := Lib.hid hlen
  have HB : Hid (∀ W, n ≤ 30 → Below w.heap.size w W → Calls Tryd.prog 43 #[.slice A n cap] W fun e w' => e = .returned (.int .i64 (bestN l n)) ∧ Below W.heap.size W w') := Lib.hid (fun W h hb => by
    have := best_any l A cap W (by omega) (sl_ext Hr.out hb)
    rwa [hlen] at this)
  rw [hlen]
  clear hlen
  go_enter Tryd.func13, Tryd.ntmps13
  go_upto_region 1 with (fail)
  generalize World.alloc _ _ = w1 at *
  go_upto_region 3 with (first
    | ((with_reducible refine HA.out.mono ?_)
       rintro e w2 ⟨rfl, hb2⟩
       have H2 := Lib.hid (H0.out.ext hb2)
       clear hb2))
  by_cases hgt : 30 < n
  · have hgt2 : (30 : Int) < n := by omega
    go_wp2_with fail
    go_ret
    exact ⟨rfl, H2.out.below⟩
  have hgt2 : ¬ (30 : Int) < n := by omega
  have hn30 : n ≤ 30 := by omega
  clear hgt
  have HB2 := Lib.hid (HB.out w2 hn30 H2.out.below)
  by_cases h0 : n = 0
  · have e0 : bestN l n = -1 := by rw [h0]; rfl
    rw [e0] at HB2
    have hz : ((n : Int) == 0) = true := by rw [h0]; rfl
    have Hh0 := Lib.hid h0
    clear h0 e0 HB
    go_wp2_with (first
      | ((with_reducible refine HB2.out.mono ?_)
         rintro e w3 ⟨rfl, hb3⟩
         have H3 := Lib.hid (H2.out.ext hb3)
         clear hb3))
    go_ret
    exact ⟨rfl, H3.out.below⟩
  obtain ⟨m, em, tm⟩ := best_top l n (by omega)
  have hmn := tm.lt
  rw [em] at HB2
  obtain ⟨g, o, rfl, hg, hrk⟩ := Hr.out (by rw [List.length_map, Hlen.out]; omega)
  have Tm := Lib.hid tm
  have hsn := best_snoc l v (by rw [Hlen.out]; omega) (m := m) (by rw [Hlen.out]; exact em)
  rw [Hlen.out] at hsn
  have Hsn := Lib.hid hsn
  have Hrk : ∀ W, Below w.heap.size w W → ∀ (k : Nat) (hk : k < l.length), W.rangeAt g (o + k * 21) l[k].vals := fun W hb k hk => rangeAt_below (by
    have := hrk k (by rw [List.length_map]; exact hk)
    simpa using this) hb hg
  have lg_ : ∀ {W : World} {A : List It}, St w.heap.size w W A → g < W.heap.size := fun h => Nat.lt_of_lt_of_le hg h.below.size
  have hne : ((n : Int) == 0) = false := by rw [beq_eq_false_iff_ne]; omega
  have hm0 : ¬ (m : Int) < 0 := by omega
  have hm1 : ¬ (n : Int) ≤ (m : Int) := by omega
  have hm2 : decide ((m : Int) < 0) = false := by rw [decide_eq_false_iff_not]; omega
  have hm3 : decide (n ≤ m) = false := by rw [decide_eq_false_iff_not]; omega
  have hm4 : decide ((n : Int) ≤ (m : Int)) = false := by rw [decide_eq_false_iff_not]; omega
  clear hsn tm em HB hrk
  go_upto_region 10 with (first
    | ((with_reducible refine HB2.out.mono ?_)
       rintro e w3 ⟨rfl, hb3⟩
       have H3 := Lib.hid (H2.out.ext hb3)
       clear hb3))
  go_upto_region 11 with (fail)
  have Hne := Lib.hid hne
  have Hm0 := Lib.hid hm0
  have Hm1 := Lib.hid hm1
  have Hm2 := Lib.hid hm2
  have Hm3 := Lib.hid hm3
  clear hne hm0 hm1 hm2 hm3 hm4
  go_loopw [4, 6, 30] (fun _ _ s30 wr => ∃ i : Nat, i ≤ n ∧ s30 = .int .i64 (i : Int) ∧ Hid (St w.heap.size w wr (bk w.heap.size 71 v.vals :: []))) (fun _ _ i _ => n - (intOf i).toNat)
  case atStart => exact ⟨0, by omega, rfl, H3⟩
  case round =>
    obtain ⟨i, hi0, rfl, HR⟩ := hrel
    by_cases hlt : i < n
    · have hI : (i : Int) < n := by omega
      have hIm : (m : Int) < n := by omega
      have hi1 : (0 : Int) ≤ (i : Int) := by omega
      have hm1 : (0 : Int) ≤ (m : Int) := by omega
      have Ri := Lib.hid (rangeAt_below (sl_at Hr.out i (by rw [Hlen.out]; exact hlt)).2 HR.out.below hg)
      have Rm := Lib.hid (rangeAt_below (sl_at Hr.out m (by rw [Hlen.out]; omega)).2 HR.out.below hg)
      have lG := lg_ HR.out
      have hX := better_any (l.getD i default) (l.getD m default)
      rw [Tm.out.none i hlt] at hX
      have HX := Lib.hid hX
      have HE : Hid (i < m → ∀ W, (binOp .eql 71 (.agg (l.getD i default).vals.toArray) (.agg (l.getD m default).vals.toArray)).run Tryd.prog W = .ok (.bool false) W) := Lib.hid (fun him W => by
        rw [vec_eql, decide_eq_false (fun e => ?_)]
        have := Tm.out.first i him
        rw [e, better_irr] at this
        cases this)
      have HG := fun p q W => vec_guard .eql (l.getD i default) (l.getD m default) p q W
      clear hX
      generalize l.getD i default = a at *
      generalize l.getD m default = b at *
      by_cases him : i < m
      · have hil : (i : Int) < (m : Int) := by omega
        have hil2 : decide ((i : Int) < (m : Int)) = true := by rw [decide_eq_true_iff]; omega
        have HE := HE.out him
        go_upto_region 13 with (fail)
        have hil : (i : Int) < (m : Int) := by omega
        have hil2 : decide ((i : Int) < (m : Int)) = true := by rw [decide_eq_true_iff]; omega
        refine wp_region_ext (by kernel_rfl) (by kernel_rfl) ?_
        repeat (go_big_quiet_step (fail))
        go_big_quiet_want
        with_reducible refine quiet_load_rng (b := ?b6) (off := ?o6) (ds := ?ds6) a.vals ?hx6 ?hr6 ?hu6 ?hd6 ?hi6 ?hk6
        case hx6 => rfl
        case hr6 => rintro _ ⟨y, rfl⟩; exact rangeAt_below Ri.out y.below lG
        case hu6 => exact Tryd.underlying71
        case hd6 => rfl
        case hi6 => exact info71
        go_simp
        go_big_quiet_on
        repeat (go_big_quiet_step (fail))
        go_big_quiet_want
        with_reducible refine quiet_load_rng (b := ?b7) (off := ?o7) (ds := ?ds7) b.vals ?hx7 ?hr7 ?hu7 ?hd7 ?hi7 ?hk7
        case hx7 => rfl
        case hr7 => rintro _ ⟨y, rfl⟩; exact rangeAt_below Rm.out y.below lG
        case hu7 => exact Tryd.underlying71
        case hd7 => rfl
        case hi7 => exact info71
        go_simp
        go_big_quiet_on
        repeat (go_big_quiet_step ((go_at_call 42; exact Calls.ext _ (HX.out _))))
        go_big_quiet_want
        with_reducible refine quiet_load_rng (b := ?b8) (off := ?o8) (ds := ?ds8) a.vals ?hx8 ?hr8 ?hu8 ?hd8 ?hi8 ?hk8
        case hx8 => rfl
        case hr8 => rintro _ ⟨y, rfl⟩; exact rangeAt_below Ri.out y.below lG
        case hu8 => exact Tryd.underlying71
        case hd8 => rfl
        case hi8 => exact info71
        go_simp
        go_big_quiet_on
        repeat (go_big_quiet_step (fail))
        go_big_quiet_want
        with_reducible refine quiet_load_rng (b := ?b9) (off := ?o9) (ds := ?ds9) b.vals ?hx9 ?hr9 ?hu9 ?hd9 ?hi9 ?hk9
        case hx9 => rfl
        case hr9 => rintro _ ⟨y, rfl⟩; exact rangeAt_below Rm.out y.below lG
        case hu9 => exact Tryd.underlying71
        case hd9 => rfl
        case hi9 => exact info71
        go_simp
        go_big_quiet_on
        repeat (go_big_quiet_step (fail))
        refine wpQuiet_nil ?_
        rintro w5 ⟨⟨_, hb5⟩, rfl⟩
        try simp only [] at *
        have H5 := Lib.hid (HR.out.ext hb5)
        clear hb5
        go_wp2_with fail
        go_roundw
        case rel => exact ⟨i + 1, by omega, by go_num, H5⟩
        case measure => simp [intOf]; omega
      · have hil : ¬ (i : Int) < (m : Int) := by omega
        have hil2 : decide ((i : Int) < (m : Int)) = false := by rw [decide_eq_false_iff_not]; omega
        clear HE
        go_upto_region 13 with (fail)
        have hil : ¬ (i : Int) < (m : Int) := by omega
        have hil2 : decide ((i : Int) < (m : Int)) = false := by rw [decide_eq_false_iff_not]; omega
        refine wp_region_ext (by kernel_rfl) (by kernel_rfl) ?_
        repeat (go_big_quiet_step (fail))
        go_big_quiet_want
        with_reducible refine quiet_load_rng (b := ?b10) (off := ?o10) (ds := ?ds10) a.vals ?hx10 ?hr10 ?hu10 ?hd10 ?hi10 ?hk10
        case hx10 => rfl
        case hr10 => rintro _ ⟨y, rfl⟩; exact rangeAt_below Ri.out y.below lG
        case hu10 => exact Tryd.underlying71
        case hd10 => rfl
        case hi10 => exact info71
        go_simp
        go_big_quiet_on
        repeat (go_big_quiet_step (fail))
        go_big_quiet_want
        with_reducible refine quiet_load_rng (b := ?b11) (off := ?o11) (ds := ?ds11) b.vals ?hx11 ?hr11 ?hu11 ?hd11 ?hi11 ?hk11
        case hx11 => rfl
        case hr11 => rintro _ ⟨y, rfl⟩; exact rangeAt_below Rm.out y.below lG
        case hu11 => exact Tryd.underlying71
        case hd11 => rfl
        case hi11 => exact info71
        go_simp
        go_big_quiet_on
        repeat (go_big_quiet_step ((go_at_call 42; exact Calls.ext _ (HX.out _))))
        refine wpQuiet_nil ?_
        rintro w5 ⟨⟨_, hb5⟩, rfl⟩
        try simp only [] at *
        have H5 := Lib.hid (HR.out.ext hb5)
        clear hb5
        go_wp2_with fail
        go_roundw
        case rel => exact ⟨i + 1, by omega, by go_num, H5⟩
        case measure => simp [intOf]; omega
    · obtain rfl : i = n := by omega
      have hI : ¬ (i : Int) < i := by omega
      have hX := better_any v (l.getD m default)
      obtain ⟨x, hx⟩ : ∃ x, better v (l.getD m default) = x := ⟨_, rfl⟩
      rw [hx] at hX Hsn
      have HX := Lib.hid hX
      clear hX hx
      have hS9 : wr.drew.rangeAt w.heap.size 0 v.vals := (Blk.box (HR.out.drew.at 0 rfl)).range
      have HD := Lib.hid HR.out.drew
      have HBS : ∀ W, (Instr.buildSlice 74 1 #[(0, .agg v.vals.toArray)]).run Tryd.prog W = .ok (.slice (some ⟨W.heap.size, 0, none⟩) 1 1) (W.alloc (.cells v.vals.toArray 71)) := fun W => run_buildSlice1 elemVec v.vals rfl (by decide) W
      go_upto_region 16 with (fail)
      cases x
      · have Hsn : Hid (bestN (l ++ [v]) (i + 1) = (m : Int)) := Lib.hid (by rw [Hsn.out]; rfl)
        refine wp_region_last (fun X => X.rangeAt w.heap.size 0 v.vals) 6 (by kernel_rfl) hS9 (fun hHeld => ?_)
        refine wpAnyG_takeG 0 (oi := ?o13) ?v13 ?hi13 (by kernel_rfl) (by kernel_rfl) (by decide) (by kernel_rfl) (by kernel_rfl) ?hq13 ?hg13 ?hy13 (by assumption) ?hk13
        case hi13 => (simp only [List.getElem?_toArray, List.getElem?_cons_succ, List.getElem?_cons_zero]; rfl)
        case hq13 => exact fun _ _ _ h => h
        case hg13 => (first | with_unfolding_all rfl | (go_simp; with_unfolding_all rfl))
        case hy13 => (intro X hX; (first | obtain ⟨hXa, hXb, hXc, hXd, hXe⟩ := hX | obtain ⟨hXa, hXb, hXc, hXd⟩ := hX | obtain ⟨hXa, hXb, hXc⟩ := hX | obtain ⟨hXa, hXb⟩ := hX | skip); go_simp; try with_reducible rfl)
        try simp only [Act.put, List.setIfInBounds_toArray, List.set_cons_zero, List.set_cons_succ]
        refine wpAnyG_takeG 2 (oi := ?o14) (.agg (v.vals).toArray) ?hi14 (by kernel_rfl) (by kernel_rfl) (by decide) (by kernel_rfl) (by kernel_rfl) ?hq14 ?hg14 ?hy14 (by assumption) ?hk14
        case hi14 => (simp only [List.getElem?_toArray, List.getElem?_cons_succ, List.getElem?_cons_zero]; rfl)
        case hq14 => exact fun _ _ _ h => h
        case hg14 => (first | with_unfolding_all rfl | (go_simp; with_unfolding_all rfl))
        case hy14 => exact fun X hX => exec_load_rng (ty := 71) (v.vals) (by with_unfolding_all rfl) (hX) Tryd.underlying71 rfl info71
        try simp only [Act.put, List.setIfInBounds_toArray, List.set_cons_zero, List.set_cons_succ]
        refine wpAnyG_two 1 3 (o := ?oqfalse) (u := ?uqfalse) (by kernel_rfl) ?hiqfalse ?hjqfalse ?hgqfalse ?huqfalse ?haqfalse ?hbqfalse
        case hiqfalse => (simp only [List.getElem?_toArray, List.getElem?_cons_succ, List.getElem?_cons_zero]; rfl)
        case hjqfalse => (simp only [List.getElem?_toArray, List.getElem?_cons_succ, List.getElem?_cons_zero]; rfl)
        case hgqfalse => rfl
        case huqfalse => rfl
        case haqfalse =>
          intro K hK
          go_simp
          refine (clone_st HD.out l g o cap i Hlen.out (by omega) (by omega) (lg_ HD.out) (Hrk _ HD.out.below)).mono ?_
          rintro e w10 ⟨cv, rfl, h10⟩
          have H10 := Lib.hid h10
          clear h10
          have hS10 : w10.rangeAt w.heap.size 0 v.vals := (Blk.box (H10.out.at 1 rfl)).range
          refine hK.out _ _ (fun _ => hS10) (fun _ => ?_)
          clear hK K hHeld
          have hHeld := hS10
          try simp only [Act.put, List.setIfInBounds_toArray, List.set_cons_zero, List.set_cons_succ]
          refine wpAnyG_one 3 (o := ?o15) (by kernel_rfl) ?hi15 ?hg15 ?hk15
          case hi15 => (simp only [List.getElem?_toArray, List.getElem?_cons_succ, List.getElem?_cons_zero]; rfl)
          case hg15 => rfl
          intro K hK
          refine oper_build1 (t := 74) v.vals elemVec (by with_unfolding_all rfl) rfl (by decide) ?_
          have H11 := Lib.hid (H10.out.alloc v.vals 71)
          generalize World.alloc _ _ = w11 at *
          have hS11 : w11.rangeAt w.heap.size 0 v.vals := (Blk.box (H11.out.at 2 rfl)).range
          refine hK.out _ _ (fun _ => hS11) (fun _ => ?_)
          clear hK K hHeld
          have hHeld := hS11
          try simp only [Act.put, List.setIfInBounds_toArray, List.set_cons_zero, List.set_cons_succ]
          refine wpAnyG_one 4 (o := ?o16) (by kernel_rfl) ?hi16 ?hg16 ?hk16
          case hi16 => (simp only [List.getElem?_toArray, List.getElem?_cons_succ, List.getElem?_cons_zero]; rfl)
          case hg16 => rfl
          intro K hK
          refine oper_append_st 60 62 (t := 74) (n := i) (m := 1) (c := 1) (from_ := ⟨w10.heap.size, 0, none⟩) (vrows l) v.vals rfl elemVec (H11.out.pull 1 rfl) (by with_unfolding_all rfl) (by with_unfolding_all rfl) (fun j u hj => by rw [Addr.add_lit]; exact (Blk.box (H11.out.at 0 rfl)).range j u hj) rfl (Vec.one _) (by decide) (by unfold maxLen; omega) (by omega) ?_
          intro g2 cap2 w22 h22
          rw [← vrows_snoc] at h22
          have H22 := Lib.hid h22
          clear h22
          have hS22 : w22.rangeAt w.heap.size 0 v.vals := (Blk.box (H22.out.at 2 rfl)).range
          refine hK.out _ _ (fun _ => hS22) (fun _ => ?_)
          clear hK K hHeld
          have hHeld := hS22
          try simp only [Act.put, List.setIfInBounds_toArray, List.set_cons_zero, List.set_cons_succ]
          refine wpAnyG_one 5 (o := ?o17) (by kernel_rfl) ?hi17 ?hg17 ?hk17
          case hi17 => (simp only [List.getElem?_toArray, List.getElem?_cons_succ, List.getElem?_cons_zero]; rfl)
          case hg17 => rfl
          intro K hK
          go_simp
          have hbo := best_own (l ++ [v]) H22.out (by simp [Hlen.out]) (by omega)
          rw [Hsn.out] at hbo
          refine hbo.mono ?_
          rintro e w23 ⟨rfl, hb23⟩
          have H23 := Lib.hid (H22.out.ext hb23).tail.tail
          clear hbo hb23
          have hS23 : w23.rangeAt w.heap.size 0 v.vals := (Blk.box (H23.out.at 0 rfl)).range
          refine hK.out _ _ (fun _ => hS23) (fun _ => ?_)
          clear hK K hHeld
          have hHeld := hS23
          try simp only [Act.put, List.setIfInBounds_toArray, List.set_cons_zero, List.set_cons_succ]
          refine wpAnyG_one 6 (o := ?o18) (by kernel_rfl) ?hi18 ?hg18 ?hk18
          case hi18 => (simp only [List.getElem?_toArray, List.getElem?_cons_succ, List.getElem?_cons_zero]; rfl)
          case hg18 => rfl
          intro K hK
          go_simp
          refine hK.out _ _ (fun h => absurd rfl h) (fun _ => ?_)
          refine wpAnyG_done (by kernel_rfl) ?_ _
          clear hK K hHeld
          go_upto_region 17 with (fail)
          refine wp_region_ext (by kernel_rfl) (by kernel_rfl) ?_
          repeat (go_big_quiet_step (fail))
          refine wpQuiet_nil ?_
          rintro w24 ⟨⟨_, hb24⟩, rfl⟩
          try simp only [] at *
          go_wp2_with fail
          go_ret
          exact ⟨rfl, H23.out.below.trans (hb24.mono H23.out.below.size)⟩
        case hbqfalse =>
          intro K hK
          refine oper_build1 (t := 74) v.vals elemVec (by with_unfolding_all rfl) rfl (by decide) ?_
          have H10 := Lib.hid (HD.out.alloc v.vals 71)
          generalize World.alloc _ _ = w10 at *
          have hS10 : w10.rangeAt w.heap.size 0 v.vals := (Blk.box (H10.out.at 1 rfl)).range
          refine hK.out _ _ (fun _ => hS10) (fun _ => ?_)
          clear hK K hHeld
          have hHeld := hS10
          try simp only [Act.put, List.setIfInBounds_toArray, List.set_cons_zero, List.set_cons_succ]
          refine wpAnyG_one 1 (o := ?o19) (by kernel_rfl) ?hi19 ?hg19 ?hk19
          case hi19 => (simp only [List.getElem?_toArray, List.getElem?_cons_succ, List.getElem?_cons_zero]; rfl)
          case hg19 => rfl
          intro K hK
          go_simp
          refine (clone_st H10.out l g o cap i Hlen.out (by omega) (by omega) (lg_ H10.out) (Hrk _ H10.out.below)).mono ?_
          rintro e w11 ⟨cv, rfl, h11⟩
          have H11 := Lib.hid h11
          clear h11
          have hS11 : w11.rangeAt w.heap.size 0 v.vals := (Blk.box (H11.out.at 2 rfl)).range
          refine hK.out _ _ (fun _ => hS11) (fun _ => ?_)
          clear hK K hHeld
          have hHeld := hS11
          try simp only [Act.put, List.setIfInBounds_toArray, List.set_cons_zero, List.set_cons_succ]
          refine wpAnyG_one 4 (o := ?o20) (by kernel_rfl) ?hi20 ?hg20 ?hk20
          case hi20 => (simp only [List.getElem?_toArray, List.getElem?_cons_succ, List.getElem?_cons_zero]; rfl)
          case hg20 => rfl
          intro K hK
          refine oper_append_st 60 62 (t := 74) (n := i) (m := 1) (c := 1) (from_ := ⟨wr.heap.size, 0, none⟩) (vrows l) v.vals rfl elemVec H11.out (by with_unfolding_all rfl) (by with_unfolding_all rfl) (fun j u hj => by rw [Addr.add_lit]; exact (Blk.box (H11.out.at 1 rfl)).range j u hj) rfl (Vec.one _) (by decide) (by unfold maxLen; omega) (by omega) ?_
          intro g2 cap2 w22 h22
          rw [← vrows_snoc] at h22
          have H22 := Lib.hid h22
          clear h22
          have hS22 : w22.rangeAt w.heap.size 0 v.vals := (Blk.box (H22.out.at 2 rfl)).range
          refine hK.out _ _ (fun _ => hS22) (fun _ => ?_)
          clear hK K hHeld
          have hHeld := hS22
          try simp only [Act.put, List.setIfInBounds_toArray, List.set_cons_zero, List.set_cons_succ]
          refine wpAnyG_one 5 (o := ?o21) (by kernel_rfl) ?hi21 ?hg21 ?hk21
          case hi21 => (simp only [List.getElem?_toArray, List.getElem?_cons_succ, List.getElem?_cons_zero]; rfl)
          case hg21 => rfl
          intro K hK
          go_simp
          have hbo := best_own (l ++ [v]) H22.out (by simp [Hlen.out]) (by omega)
          rw [Hsn.out] at hbo
          refine hbo.mono ?_
          rintro e w23 ⟨rfl, hb23⟩
          have H23 := Lib.hid (H22.out.ext hb23).tail.tail
          clear hbo hb23
          have hS23 : w23.rangeAt w.heap.size 0 v.vals := (Blk.box (H23.out.at 0 rfl)).range
          refine hK.out _ _ (fun _ => hS23) (fun _ => ?_)
          clear hK K hHeld
          have hHeld := hS23
          try simp only [Act.put, List.setIfInBounds_toArray, List.set_cons_zero, List.set_cons_succ]
          refine wpAnyG_one 6 (o := ?o22) (by kernel_rfl) ?hi22 ?hg22 ?hk22
          case hi22 => (simp only [List.getElem?_toArray, List.getElem?_cons_succ, List.getElem?_cons_zero]; rfl)
          case hg22 => rfl
          intro K hK
          go_simp
          refine hK.out _ _ (fun h => absurd rfl h) (fun _ => ?_)
          refine wpAnyG_done (by kernel_rfl) ?_ _
          clear hK K hHeld
          go_upto_region 17 with (fail)
          refine wp_region_ext (by kernel_rfl) (by kernel_rfl) ?_
          repeat (go_big_quiet_step (fail))
          refine wpQuiet_nil ?_
          rintro w24 ⟨⟨_, hb24⟩, rfl⟩
          try simp only [] at *
          go_wp2_with fail
          go_ret
          exact ⟨rfl, H23.out.below.trans (hb24.mono H23.out.below.size)⟩
      · have Hsn : Hid (bestN (l ++ [v]) (i + 1) = (i : Int)) := Lib.hid (by rw [Hsn.out]; rfl)
        refine wp_region_last (fun X => X.rangeAt w.heap.size 0 v.vals) 6 (by kernel_rfl) hS9 (fun hHeld => ?_)
        refine wpAnyG_takeG 0 (oi := ?o24) ?v24 ?hi24 (by kernel_rfl) (by kernel_rfl) (by decide) (by kernel_rfl) (by kernel_rfl) ?hq24 ?hg24 ?hy24 (by assumption) ?hk24
        case hi24 => (simp only [List.getElem?_toArray, List.getElem?_cons_succ, List.getElem?_cons_zero]; rfl)
        case hq24 => exact fun _ _ _ h => h
        case hg24 => (first | with_unfolding_all rfl | (go_simp; with_unfolding_all rfl))
        case hy24 => (intro X hX; (first | obtain ⟨hXa, hXb, hXc, hXd, hXe⟩ := hX | obtain ⟨hXa, hXb, hXc, hXd⟩ := hX | obtain ⟨hXa, hXb, hXc⟩ := hX | obtain ⟨hXa, hXb⟩ := hX | skip); go_simp; try with_reducible rfl)
        try simp only [Act.put, List.setIfInBounds_toArray, List.set_cons_zero, List.set_cons_succ]
        refine wpAnyG_takeG 2 (oi := ?o25) (.agg (v.vals).toArray) ?hi25 (by kernel_rfl) (by kernel_rfl) (by decide) (by kernel_rfl) (by kernel_rfl) ?hq25 ?hg25 ?hy25 (by assumption) ?hk25
        case hi25 => (simp only [List.getElem?_toArray, List.getElem?_cons_succ, List.getElem?_cons_zero]; rfl)
        case hq25 => exact fun _ _ _ h => h
        case hg25 => (first | with_unfolding_all rfl | (go_simp; with_unfolding_all rfl))
        case hy25 => exact fun X hX => exec_load_rng (ty := 71) (v.vals) (by with_unfolding_all rfl) (hX) Tryd.underlying71 rfl info71
        try simp only [Act.put, List.setIfInBounds_toArray, List.set_cons_zero, List.set_cons_succ]
        refine wpAnyG_two 1 3 (o := ?oqtrue) (u := ?uqtrue) (by kernel_rfl) ?hiqtrue ?hjqtrue ?hgqtrue ?huqtrue ?haqtrue ?hbqtrue
        case hiqtrue => (simp only [List.getElem?_toArray, List.getElem?_cons_succ, List.getElem?_cons_zero]; rfl)
        case hjqtrue => (simp only [List.getElem?_toArray, List.getElem?_cons_succ, List.getElem?_cons_zero]; rfl)
        case hgqtrue => rfl
        case huqtrue => rfl
        case haqtrue =>
          intro K hK
          go_simp
          refine (clone_st HD.out l g o cap i Hlen.out (by omega) (by omega) (lg_ HD.out) (Hrk _ HD.out.below)).mono ?_
          rintro e w10 ⟨cv, rfl, h10⟩
          have H10 := Lib.hid h10
          clear h10
          have hS10 : w10.rangeAt w.heap.size 0 v.vals := (Blk.box (H10.out.at 1 rfl)).range
          refine hK.out _ _ (fun _ => hS10) (fun _ => ?_)
          clear hK K hHeld
          have hHeld := hS10
          try simp only [Act.put, List.setIfInBounds_toArray, List.set_cons_zero, List.set_cons_succ]
          refine wpAnyG_one 3 (o := ?o26) (by kernel_rfl) ?hi26 ?hg26 ?hk26
          case hi26 => (simp only [List.getElem?_toArray, List.getElem?_cons_succ, List.getElem?_cons_zero]; rfl)
          case hg26 => rfl
          intro K hK
          refine oper_build1 (t := 74) v.vals elemVec (by with_unfolding_all rfl) rfl (by decide) ?_
          have H11 := Lib.hid (H10.out.alloc v.vals 71)
          generalize World.alloc _ _ = w11 at *
          have hS11 : w11.rangeAt w.heap.size 0 v.vals := (Blk.box (H11.out.at 2 rfl)).range
          refine hK.out _ _ (fun _ => hS11) (fun _ => ?_)
          clear hK K hHeld
          have hHeld := hS11
          try simp only [Act.put, List.setIfInBounds_toArray, List.set_cons_zero, List.set_cons_succ]
          refine wpAnyG_one 4 (o := ?o27) (by kernel_rfl) ?hi27 ?hg27 ?hk27
          case hi27 => (simp only [List.getElem?_toArray, List.getElem?_cons_succ, List.getElem?_cons_zero]; rfl)
          case hg27 => rfl
          intro K hK
          refine oper_append_st 60 62 (t := 74) (n := i) (m := 1) (c := 1) (from_ := ⟨w10.heap.size, 0, none⟩) (vrows l) v.vals rfl elemVec (H11.out.pull 1 rfl) (by with_unfolding_all rfl) (by with_unfolding_all rfl) (fun j u hj => by rw [Addr.add_lit]; exact (Blk.box (H11.out.at 0 rfl)).range j u hj) rfl (Vec.one _) (by decide) (by unfold maxLen; omega) (by omega) ?_
          intro g2 cap2 w22 h22
          rw [← vrows_snoc] at h22
          have H22 := Lib.hid h22
          clear h22
          have hS22 : w22.rangeAt w.heap.size 0 v.vals := (Blk.box (H22.out.at 2 rfl)).range
          refine hK.out _ _ (fun _ => hS22) (fun _ => ?_)
          clear hK K hHeld
          have hHeld := hS22
          try simp only [Act.put, List.setIfInBounds_toArray, List.set_cons_zero, List.set_cons_succ]
          refine wpAnyG_one 5 (o := ?o28) (by kernel_rfl) ?hi28 ?hg28 ?hk28
          case hi28 => (simp only [List.getElem?_toArray, List.getElem?_cons_succ, List.getElem?_cons_zero]; rfl)
          case hg28 => rfl
          intro K hK
          go_simp
          have hbo := best_own (l ++ [v]) H22.out (by simp [Hlen.out]) (by omega)
          rw [Hsn.out] at hbo
          refine hbo.mono ?_
          rintro e w23 ⟨rfl, hb23⟩
          have H23 := Lib.hid (H22.out.ext hb23).tail.tail
          clear hbo hb23
          have hS23 : w23.rangeAt w.heap.size 0 v.vals := (Blk.box (H23.out.at 0 rfl)).range
          refine hK.out _ _ (fun _ => hS23) (fun _ => ?_)
          clear hK K hHeld
          have hHeld := hS23
          try simp only [Act.put, List.setIfInBounds_toArray, List.set_cons_zero, List.set_cons_succ]
          refine wpAnyG_one 6 (o := ?o29) (by kernel_rfl) ?hi29 ?hg29 ?hk29
          case hi29 => (simp only [List.getElem?_toArray, List.getElem?_cons_succ, List.getElem?_cons_zero]; rfl)
          case hg29 => rfl
          intro K hK
          go_simp
          refine hK.out _ _ (fun h => absurd rfl h) (fun _ => ?_)
          refine wpAnyG_done (by kernel_rfl) ?_ _
          clear hK K hHeld
          have Rv := Lib.hid (Blk.box (H23.out.at 0 rfl)).range
          have Rm := Lib.hid (rangeAt_below (sl_at Hr.out m (by rw [Hlen.out]; omega)).2 H23.out.below hg)
          have lV := (H23.out.at 0 rfl).lt
          have lG := lg_ H23.out
          have him : ((i : Int) == (m : Int)) = false := by rw [beq_eq_false_iff_ne]; omega
          have him2 : (m : Int) < (i : Int) := by omega
          have him3 : (0 : Int) ≤ (m : Int) := by omega
          generalize l.getD m default = b at *
          go_upto_region 17 with (fail)
          have him : ((i : Int) == (m : Int)) = false := by rw [beq_eq_false_iff_ne]; omega
          refine wp_region_ext (by kernel_rfl) (by kernel_rfl) ?_
          repeat (go_big_quiet_step (fail))
          go_big_quiet_want
          with_reducible refine quiet_load_rng (b := ?b30) (off := ?o30) (ds := ?ds30) v.vals ?hx30 ?hr30 ?hu30 ?hd30 ?hi30 ?hk30
          case hx30 => rfl
          case hr30 => rintro _ ⟨y, rfl⟩; exact rangeAt_below Rv.out y.below lV
          case hu30 => exact Tryd.underlying71
          case hd30 => rfl
          case hi30 => exact info71
          go_simp
          go_big_quiet_on
          repeat (go_big_quiet_step (fail))
          go_big_quiet_want
          with_reducible refine quiet_load_rng (b := ?b31) (off := ?o31) (ds := ?ds31) b.vals ?hx31 ?hr31 ?hu31 ?hd31 ?hi31 ?hk31
          case hx31 => rfl
          case hr31 => rintro _ ⟨y, rfl⟩; exact rangeAt_below Rm.out y.below lG
          case hu31 => exact Tryd.underlying71
          case hd31 => rfl
          case hi31 => exact info71
          go_simp
          go_big_quiet_on
          repeat (go_big_quiet_step ((go_at_call 42; exact Calls.ext _ (HX.out _))))
          refine wpQuiet_nil ?_
          rintro w24 ⟨⟨_, hb24⟩, rfl⟩
          try simp only [] at *
          go_wp2_with fail
          go_ret
          exact ⟨rfl, H23.out.below.trans (hb24.mono H23.out.below.size)⟩
        case hbqtrue =>
          intro K hK
          refine oper_build1 (t := 74) v.vals elemVec (by with_unfolding_all rfl) rfl (by decide) ?_
          have H10 := Lib.hid (HD.out.alloc v.vals 71)
          generalize World.alloc _ _ = w10 at *
          have hS10 : w10.rangeAt w.heap.size 0 v.vals := (Blk.box (H10.out.at 1 rfl)).range
          refine hK.out _ _ (fun _ => hS10) (fun _ => ?_)
          clear hK K hHeld
          have hHeld := hS10
          try simp only [Act.put, List.setIfInBounds_toArray, List.set_cons_zero, List.set_cons_succ]
          refine wpAnyG_one 1 (o := ?o32) (by kernel_rfl) ?hi32 ?hg32 ?hk32
          case hi32 => (simp only [List.getElem?_toArray, List.getElem?_cons_succ, List.getElem?_cons_zero]; rfl)
          case hg32 => rfl
          intro K hK
          go_simp
          refine (clone_st H10.out l g o cap i Hlen.out (by omega) (by omega) (lg_ H10.out) (Hrk _ H10.out.below)).mono ?_
          rintro e w11 ⟨cv, rfl, h11⟩
          have H11 := Lib.hid h11
          clear h11
          have hS11 : w11.rangeAt w.heap.size 0 v.vals := (Blk.box (H11.out.at 2 rfl)).range
          refine hK.out _ _ (fun _ => hS11) (fun _ => ?_)
          clear hK K hHeld
          have hHeld := hS11
          try simp only [Act.put, List.setIfInBounds_toArray, List.set_cons_zero, List.set_cons_succ]
          refine wpAnyG_one 4 (o := ?o33) (by kernel_rfl) ?hi33 ?hg33 ?hk33
          case hi33 => (simp only [List.getElem?_toArray, List.getElem?_cons_succ, List.getElem?_cons_zero]; rfl)
          case hg33 => rfl
          intro K hK
          refine oper_append_st 60 62 (t := 74) (n := i) (m := 1) (c := 1) (from_ := ⟨wr.heap.size, 0, none⟩) (vrows l) v.vals rfl elemVec H11.out (by with_unfolding_all rfl) (by with_unfolding_all rfl) (fun j u hj => by rw [Addr.add_lit]; exact (Blk.box (H11.out.at 1 rfl)).range j u hj) rfl (Vec.one _) (by decide) (by unfold maxLen; omega) (by omega) ?_
          intro g2 cap2 w22 h22
          rw [← vrows_snoc] at h22
          have H22 := Lib.hid h22
          clear h22
          have hS22 : w22.rangeAt w.heap.size 0 v.vals := (Blk.box (H22.out.at 2 rfl)).range
          refine hK.out _ _ (fun _ => hS22) (fun _ => ?_)
          clear hK K hHeld
          have hHeld := hS22
          try simp only [Act.put, List.setIfInBounds_toArray, List.set_cons_zero, List.set_cons_succ]
          refine wpAnyG_one 5 (o := ?o34) (by kernel_rfl) ?hi34 ?hg34 ?hk34
          case hi34 => (simp only [List.getElem?_toArray, List.getElem?_cons_succ, List.getElem?_cons_zero]; rfl)
          case hg34 => rfl
          intro K hK
          go_simp
          have hbo := best_own (l ++ [v]) H22.out (by simp [Hlen.out]) (by omega)
          rw [Hsn.out] at hbo
          refine hbo.mono ?_
          rintro e w23 ⟨rfl, hb23⟩
          have H23 := Lib.hid (H22.out.ext hb23).tail.tail
          clear hbo hb23
          have hS23 : w23.rangeAt w.heap.size 0 v.vals := (Blk.box (H23.out.at 0 rfl)).range
          refine hK.out _ _ (fun _ => hS23) (fun _ => ?_)
          clear hK K hHeld
          have hHeld := hS23
          try simp only [Act.put, List.setIfInBounds_toArray, List.set_cons_zero, List.set_cons_succ]
          refine wpAnyG_one 6 (o := ?o35) (by kernel_rfl) ?hi35 ?hg35 ?hk35
          case hi35 => (simp only [List.getElem?_toArray, List.getElem?_cons_succ, List.getElem?_cons_zero]; rfl)
          case hg35 => rfl
          intro K hK
          go_simp
          refine hK.out _ _ (fun h => absurd rfl h) (fun _ => ?_)
          refine wpAnyG_done (by kernel_rfl) ?_ _
          clear hK K hHeld
          have Rv := Lib.hid (Blk.box (H23.out.at 0 rfl)).range
          have Rm := Lib.hid (rangeAt_below (sl_at Hr.out m (by rw [Hlen.out]; omega)).2 H23.out.below hg)
          have lV := (H23.out.at 0 rfl).lt
          have lG := lg_ H23.out
          have him : ((i : Int) == (m : Int)) = false := by rw [beq_eq_false_iff_ne]; omega
          have him2 : (m : Int) < (i : Int) := by omega
          have him3 : (0 : Int) ≤ (m : Int) := by omega
          generalize l.getD m default = b at *
          go_upto_region 17 with (fail)
          have him : ((i : Int) == (m : Int)) = false := by rw [beq_eq_false_iff_ne]; omega
          refine wp_region_ext (by kernel_rfl) (by kernel_rfl) ?_
          repeat (go_big_quiet_step (fail))
          go_big_quiet_want
          with_reducible refine quiet_load_rng (b := ?b36) (off := ?o36) (ds := ?ds36) v.vals ?hx36 ?hr36 ?hu36 ?hd36 ?hi36 ?hk36
          case hx36 => rfl
          case hr36 => rintro _ ⟨y, rfl⟩; exact rangeAt_below Rv.out y.below lV
          case hu36 => exact Tryd.underlying71
          case hd36 => rfl
          case hi36 => exact info71
          go_simp
          go_big_quiet_on
          repeat (go_big_quiet_step (fail))
          go_big_quiet_want
          with_reducible refine quiet_load_rng (b := ?b37) (off := ?o37) (ds := ?ds37) b.vals ?hx37 ?hr37 ?hu37 ?hd37 ?hi37 ?hk37
          case hx37 => rfl
          case hr37 => rintro _ ⟨y, rfl⟩; exact rangeAt_below Rm.out y.below lG
          case hu37 => exact Tryd.underlying71
          case hd37 => rfl
          case hi37 => exact info71
          go_simp
          go_big_quiet_on
          repeat (go_big_quiet_step ((go_at_call 42; exact Calls.ext _ (HX.out _))))
          refine wpQuiet_nil ?_
          rintro w24 ⟨⟨_, hb24⟩, rfl⟩
          try simp only [] at *
          go_wp2_with fail
          go_ret
          exact ⟨rfl, H23.out.below.trans (hb24.mono H23.out.below.size)⟩
end Go.Proofs.YtkicbabfgahmkaaDoor

/- learned; the laws of the table of addresses. -/
import Derived.Test.YtoenlcmngdpkmaaDoorLn7
import Derived.Test.YtoenlcmngdpkmaaDoorOpenA
namespace Go.Proofs.YtoenlcmngdpkmaaDoor
open Go.RowKit Go.ChangeShapes Go.WideShapes Go.Deep
def lessA : Less := ⟨0, 1, 3, 0⟩
def lessB : Less := ⟨0, 2, 4, 20⟩
theorem two_time : (taughtM [] 0 [lessA, lessB]).2 = 20 := by decide
theorem two_l1 : lookM (taughtM [] 0 [lessA, lessB]).1 1 (adOf (pickN 1 60)) 20 100 = 3 := by decide
theorem two_l2 : lookM (taughtM [] 0 [lessA, lessB]).1 1 (adOf (pickN 2 60)) 20 100 = 4 := by decide
theorem two_l3 : lookM (taughtM [] 0 [lessA, lessB]).1 1 (adOf (pickN 3 60)) 20 100 = -1 := by decide
theorem two_l4 : lookM (taughtM [] 0 [lessA, lessB]).1 1 (adOf (pickN 1 60)) 101 100 = -1 := by decide
theorem two_n : lenM (taughtM [] 0 [lessA, lessB]).1 100 100 = 2 := by decide
set_option maxRecDepth 100000 in
set_option maxHeartbeats 4000000 in
theorem learned_any (w : World) : Calls Tryd.prog 4 #[] w fun e w' => e = .returned (.bool true) ∧ Below w.heap.size w w' := by
  have hb0 : Below w.heap.size w (w.alloc (.cells #[.int .i64 0, .int .i64 1, .int .i64 3, .int .i64 0, .int .i64 0, .int .i64 2, .int .i64 4, .int .i64 20] 39)) := (Below.refl _ _).alloc (Nat.le_refl _) _
  have hB : Blk (w.alloc (.cells #[.int .i64 0, .int .i64 1, .int .i64 3, .int .i64 0, .int .i64 0, .int .i64 2, .int .i64 4, .int .i64 20] 39)) w.heap.size 39 (lessA.vals ++ lessB.vals) := Blk.new w (lessA.vals ++ lessB.vals) 39
  have Hb0 := Lib.hid hb0
  have HB := Lib.hid hB
  clear hb0 hB
  go_enter Tryd.func4, Tryd.ntmps4
  go_wp2_with fail
  have hr : SlRow (w.alloc (.cells #[.int .i64 0, .int .i64 1, .int .i64 3, .int .i64 0, .int .i64 0, .int .i64 2, .int .i64 4, .int .i64 20] 39)) (w.alloc (.cells #[.int .i64 0, .int .i64 1, .int .i64 3, .int .i64 0, .int .i64 0, .int .i64 2, .int .i64 4, .int .i64 20] 39)).heap.size 4 (some ⟨w.heap.size, 0, none⟩) ([lessA, lessB].map Less.vals) := fun _ => by
    refine ⟨w.heap.size, 0, rfl, HB.out.lt, fun k hk => ?_⟩
    have hk' : k < 2 := by simpa using hk
    match k, hk' with
    | 0, _ => exact rng_left (b := lessB.vals) HB.out.box.range
    | 1, _ => exact rng_right (a := lessA.vals) HB.out.box.range
  refine (school_st [lessA, lessB] (some ⟨w.heap.size, 0, none⟩) 2 2 rfl (by omega) (St.init _) hr).mono ?_
  rintro e w2 ⟨T, sv, rfl, h2⟩
  have hok := (taught_ok [lessA, lessB] [] 0 (by omega) (TabOk.nil 0)).1
  rw [two_time] at h2 hok
  rw [two_time]
  have e1 := two_l1
  have e2 := two_l2
  have e3 := two_l3
  have e4 := two_l4
  have e5 := two_n
  generalize (taughtM [] 0 [lessA, lessB]).1 = es at *
  generalize w.alloc _ = W1 at *
  have H := Lib.hid h2
  have Hok := Lib.hid hok
  clear h2 hr HB hok
  go_wp2_with (first
    | ((with_reducible refine (address_any _ _).mono ?_)
       rintro e w9 ⟨rfl, hb⟩
       have H := Lib.hid (H.out.ext hb)
       clear hb)
    | ((with_reducible refine (look_st H.out Hok.out (by omega) _ _ _ (by omega) (by omega)).mono ?_)
       rintro e w9 ⟨rfl, h9⟩
       have H := Lib.hid h9
       clear h9)
    | ((with_reducible refine (len_st H.out Hok.out (by omega) _ (by omega) (by omega)).mono ?_)
       rintro e w9 ⟨rfl, h9⟩
       have H := Lib.hid h9
       clear h9)
    )
  go_ret
  exact ⟨rfl, Hb0.out.trans (H.out.below.mono Hb0.out.size)⟩
theorem cL : Tryd.prog.cellsOf 39 = 4 := by kernel_rfl
theorem cI : Tryd.prog.cellsOf 3 = 1 := by kernel_rfl
set_option maxRecDepth 100000 in
theorem trod_less {H : Type} {enc : TypeId × Value → H} {w : World} {base : Nat} {sp : Nat → Bool} {hd : Bool} {fuel : Nat} {cs : List Value} {x : DataW H × List MemPlace} (h : DataW.trod enc Tryd.prog w base sp hd fuel 39 cs = some x) : ∃ b : Less, cs = b.vals := by
  obtain ⟨xs, n, _, _, hl, hxl, hx⟩ := DataW.trod_struct Tryd.underlying39 h
  rw [cL] at hl
  have hxl : xs.length = 4 := hxl
  have h0 : DataW.trod enc Tryd.prog w base sp hd n 3 ((cs.drop 0).take (Tryd.prog.cellsOf 3)) = xs[0]? := hx 0 _ rfl
  have h1 : DataW.trod enc Tryd.prog w base sp hd n 3 ((cs.drop 1).take (Tryd.prog.cellsOf 3)) = xs[1]? := hx 1 _ rfl
  have h2 : DataW.trod enc Tryd.prog w base sp hd n 3 ((cs.drop 2).take (Tryd.prog.cellsOf 3)) = xs[2]? := hx 2 _ rfl
  have h3 : DataW.trod enc Tryd.prog w base sp hd n 3 ((cs.drop 3).take (Tryd.prog.cellsOf 3)) = xs[3]? := hx 3 _ rfl
  rw [List.getElem?_eq_getElem (by omega)] at h0 h1 h2 h3
  rw [cI] at h0 h1 h2 h3
  obtain ⟨n0, h0, _⟩ := int_at Tryd.underlying3 h0
  obtain ⟨n1, h1, _⟩ := int_at Tryd.underlying3 h1
  obtain ⟨n2, h2, _⟩ := int_at Tryd.underlying3 h2
  obtain ⟨n3, h3, _⟩ := int_at Tryd.underlying3 h3
  refine ⟨⟨n0, n1, n2, n3⟩, ?_⟩
  match cs, hl with
  | [c0, c1, c2, c3], _ =>
    simp only [List.getElem?_cons_zero, List.getElem?_cons_succ, Option.some.injEq] at h0 h1 h2 h3
    rw [h0, h1, h2, h3]; rfl
instance : Inhabited Less := ⟨⟨0, 0, 0, 0⟩⟩
/-- Lessons that came in. -/
def IsLessons (w : World) (v : Value) (L : List Less) : Prop := ∃ A n cap, v = .slice A n cap ∧ L.length = n ∧ n ≤ 9223372036854775807 ∧ SlRow w w.heap.size 4 A (L.map Less.vals)
set_option maxRecDepth 100000 in
theorem open_lessons {H : Type} {enc : TypeId × Value → H} {w : World} {r : Reach} {base : Nat} {b0 : Nat} {sp : Nat → Bool} {hd : Bool} {v : Value} {d : DataW H} {ps : List MemPlace}
    (hval : Value.okWide Tryd.prog w r base 22 v) (h : DataW.Trod enc Tryd.prog w b0 sp hd 22 v d ps) : ∃ L, IsLessons w v L := by
  obtain ⟨fuel, h⟩ := h
  obtain ⟨A, L, cap, e, hc, hm, hq, hr⟩ := slice_rows (α := Less) Tryd.underlying22 cL (by omega) Less.vals (fun _ => True) (fun m cs y h => by
    obtain ⟨b, e⟩ := trod_less h
    exact ⟨b, e, trivial⟩) h
  exact ⟨L, A, L.length, cap, slice_val Tryd.underlying22 hval e, rfl, hm, hr⟩
end Go.Proofs.YtoenlcmngdpkmaaDoor

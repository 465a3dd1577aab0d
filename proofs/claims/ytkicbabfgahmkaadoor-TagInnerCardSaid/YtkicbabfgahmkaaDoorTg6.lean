/- The law TagInner. -/
import Derived.Test.YtkicbabfgahmkaaDoorTg4
import Derived.Test.YtkicbabfgahmkaaDoorOpTks
import Derived.Deep.DeepMust
set_option linter.all false
namespace Go.Proofs.YtkicbabfgahmkaaDoor
open Go.RowKit
theorem stack_tail {a : Tk} {r : List Tk} (h : stackB (a :: r) = true) : stackB r = true ∧ a.okB = true ∧ r.length ≤ 1 := by
  match r, h with
  | [], h => exact ⟨rfl, h, by simp⟩
  | [b], h =>
    simp only [stackB, Bool.and_eq_true] at h
    exact ⟨h.2.1, h.1, by simp⟩
theorem sl_tail {w : World} {B s : Nat} {A : Option Addr} {c : List Value} {C : List (List Value)} (h : SlRow w B s A (c :: C)) : ∃ g o, A = some ⟨g, o, none⟩ ∧ g < B ∧ w.rangeAt g o c ∧ SlRow w B s (some ⟨g, o + s, none⟩) C := by
  obtain ⟨g, o, e, hg, hc⟩ := h (by simp)
  refine ⟨g, o, e, hg, by have := hc 0 (by simp); rwa [Nat.zero_mul, Nat.add_zero] at this, fun _ => ⟨g, o + s, rfl, hg, fun k hk => ?_⟩⟩
  have := hc (k + 1) (by simpa using hk)
  rw [show o + s + k * s = o + (k + 1) * s by rw [Nat.add_mul]; omega]
  simpa using this
theorem sl_two {W : World} {g t : Nat} {a b : List Value} (h : Blk W g t (a ++ b)) (ha : a.length = 4) : SlRow W W.heap.size 4 (some ⟨g, 0, none⟩) [a, b] := by
  refine fun _ => ⟨g, 0, rfl, h.lt, fun k hk => ?_⟩
  match k, hk with
  | 0, _ =>
    intro j v hv
    have hj := (List.getElem?_eq_some_iff.1 hv).1
    have hv : a[j]? = some v := hv
    have hj : j < a.length := hj
    rw [(Blk.box h).cell, List.getElem?_toArray, show 0 + 0 * 4 + j = j by omega, List.getElem?_append_left hj]
    exact hv
  | 1, _ =>
    intro j v hv
    have hv : b[j]? = some v := hv
    rw [(Blk.box h).cell, List.getElem?_toArray, show 0 + 1 * 4 + j = a.length + j by omega, List.getElem?_append_right (by omega), show a.length + j - a.length = j by omega]
    exact hv
theorem sl_ext {w W : World} {s : Nat} {A : Option Addr} {C : List (List Value)} (h : SlRow w w.heap.size s A C) (hb : Below w.heap.size w W) : SlRow W W.heap.size s A C := by
  intro hn
  obtain ⟨g, o, e, hg, hr⟩ := h hn
  have := hb.size
  exact ⟨g, o, e, by omega, fun k hk => rangeAt_below (hr k hk) hb hg⟩
def tk0 : Tk := ⟨false, 0, false, 0⟩
set_option maxRecDepth 100000 in
set_option maxHeartbeats 4000000 in
theorem law_TagInner (v0 : Value) (l : List Tk) (w : World) (hl : IsTags w v0 l) (hV : Vars w) :
    Calls Tryd.prog 8 #[v0] w fun e w' => e = .returned (.bool true) ∧ Below w.heap.size w w' := by
  obtain ⟨A, cap, rfl, hcap, hr⟩ := hl
  have HA := Lib.hid (tagged_any w hV)
  have Hr := Lib.hid hr
  have Hcap := Lib.hid hcap
  have HSn : ∀ W, Hid (Calls Tryd.prog 28 #[.slice none 0 0] W fun e w' => e = .returned (.bool true) ∧ Below W.heap.size W w') := fun W => Lib.hid (tkStack_any [] none 0 W (by decide) (fun h => absurd h (by decide)))
  clear hV hr hcap
  go_enter Tryd.func8, Tryd.ntmps8
  go_wp2_with (first
    | ((with_reducible refine HA.out.mono ?_)
       rintro e w1 ⟨rfl, hb1⟩
       have H1 := Lib.hid ((St.init w).ext hb1)
       clear hb1))
  have H2 := Lib.hid (H1.out.alloc (tk0.vals ++ tk0.vals) 39)
  have HS0 := Lib.hid (tkStack_any [tk0, tk0] (some ⟨w1.heap.size, 0, none⟩) 2 _ (by decide) (sl_two (a := tk0.vals) (b := tk0.vals) (H2.out.at 0 rfl) rfl))
  refine HS0.out.mono ?_
  rintro e w3 ⟨rfl, hb3⟩
  have H3 := Lib.hid (H2.out.ext hb3)
  have h0 : stackB [tk0, tk0] = false := by decide
  rw [h0]
  clear hb3 HS0 h0
  go_upto_region 3 with (first
    | ((with_reducible refine (HSn w3).out.mono ?_)
       rintro e w4 ⟨rfl, hb4⟩
       have H4 := Lib.hid (H3.out.ext hb4)
       clear hb4))
  by_cases hgt : 20 < l.length
  · have hgt2 : (20 : Int) < (l.length : Int) := by omega
    go_wp2_with fail
    go_ret
    exact ⟨rfl, H4.out.below⟩
  have hS4 := sl_ext Hr.out H4.out.below
  have hSt := tkStack_any l A cap w4 (by omega) hS4
  have Hgt := Lib.hid hgt
  have hgt2 : ¬ (20 : Int) < (l.length : Int) := by omega
  cases hst : stackB l
  · rw [hst] at hSt
    have HSt := Lib.hid hSt
    clear hSt hst hgt hS4
    generalize l.length = n at *
    go_wp2_with (first
      | ((with_reducible refine HSt.out.mono ?_)
         rintro e w5 ⟨rfl, hb5⟩
         have H5 := Lib.hid (H4.out.ext hb5)
         clear hb5))
    go_ret
    exact ⟨rfl, H5.out.below⟩
  · rw [hst] at hSt
    have HSt := Lib.hid hSt
    obtain rfl | ⟨a, r, rfl⟩ : l = [] ∨ ∃ a r, l = a :: r := by
      cases l with
      | nil => exact .inl rfl
      | cons a r => exact .inr ⟨a, r, rfl⟩
    · clear hst
      clear hSt hgt hS4 hgt2
      have HSt : Hid (Calls Tryd.prog 28 #[.slice A 0 cap] w4 fun e w' => e = .returned (.bool true) ∧ Below w4.heap.size w4 w') := HSt
      go_wp2_with (first
        | ((with_reducible refine HSt.out.mono ?_)
           rintro e w5 ⟨rfl, hb5⟩
           have H5 := Lib.hid (H4.out.ext hb5)
           clear hb5))
      go_ret
      exact ⟨rfl, H5.out.below⟩
    · obtain ⟨k1, k2, k3⟩ := stack_tail hst
      obtain ⟨g, o, rfl, hg, hra, hrr⟩ := sl_tail hS4
      have hSr := fun c W (hb : Below w4.heap.size w4 W) => tkStack_any r (some ⟨g, o + 4, none⟩) c W (by omega) (sl_ext hrr hb)
      rw [k1] at hSr
      have HSr := fun c W hb => Lib.hid (hSr c W hb)
      have Hra := Lib.hid hra
      have HRt : Hid (∀ W, Calls Tryd.prog 23 #[.agg #[.bool a.s, .int .i64 a.pcp, .bool a.dei, .int .i64 a.vid]] W fun e w' => e = .returned (.bool true) ∧ Below W.heap.size W w') := Lib.hid fun W => by rw [← k2]; exact tkRight_any a W
      obtain ⟨m, hm⟩ : ∃ m, r.length = m := ⟨_, rfl⟩
      have HSt : Hid (Calls Tryd.prog 28 #[.slice (some ⟨g, o, none⟩) (m + 1) cap] w4 fun e w' => e = .returned (.bool true) ∧ Below w4.heap.size w4 w') := by
        rw [← hm]; exact HSt
      have hc : m + 1 ≤ cap := by rw [← hm]; exact Hcap.out
      have e1 : (a :: r).length = m + 1 := by rw [← hm]; rfl
      rw [e1]
      rw [hm] at k3 HSr
      clear hSt hgt hS4 hgt2 hst hSr hra hrr e1 hm k1 k2 Hr Hcap Hgt
      have f1 : ¬ (20 : Int) < ((m : Int) + 1) := by omega
      have f2 : ((m : Int) + 1) ≤ 2 := by omega
      have f3 : (((m : Int) + 1) == 0) = false := by rw [beq_eq_false_iff_ne]; omega
      go_upto_region 6 with (first
        | ((with_reducible refine HSt.out.mono ?_)
           rintro e w5 ⟨rfl, hb5⟩
           have H5 := Lib.hid (H4.out.ext hb5)
           have Hb5 := Lib.hid hb5
           clear hb5))
      by_cases hc1 : cap = 1
      · obtain rfl : m = 0 := by omega
        subst hc1
        have HS1 : ∀ W, Hid (Calls Tryd.prog 28 #[.slice (some ⟨g, o, none⟩) 0 0] W fun e w' => e = .returned (.bool true) ∧ Below W.heap.size W w') := fun W => Lib.hid (tkStack_any [] (some ⟨g, o, none⟩) 0 W (by decide) (fun h => absurd h (by decide)))
        clear HSr f1 f2 f3 hc k3
        go_wp2_with (first
          | ((with_reducible refine (HS1 w5).out.mono ?_)
             rintro e w6 ⟨rfl, hb6⟩
             have H6 := Lib.hid (H5.out.ext hb6)
             have Hb6 := Lib.hid (Hb5.out.trans (hb6.mono Hb5.out.size))
             have d0 : w6.cell? ⟨g, o, none⟩ = some (.bool a.s) := (rangeAt_below Hra.out Hb6.out hg) 0 _ rfl
             have d1 : w6.cell? ⟨g, o + 1, none⟩ = some (.int .i64 a.pcp) := (rangeAt_below Hra.out Hb6.out hg) 1 _ rfl
             have d2 : w6.cell? ⟨g, o + 2, none⟩ = some (.bool a.dei) := (rangeAt_below Hra.out Hb6.out hg) 2 _ rfl
             have d3 : w6.cell? ⟨g, o + 3, none⟩ = some (.int .i64 a.vid) := (rangeAt_below Hra.out Hb6.out hg) 3 _ rfl
             clear hb6)
          | ((with_reducible refine (HRt.out _).mono ?_)
             rintro e w7 ⟨rfl, hb7⟩
             have H7 := Lib.hid (H6.out.ext hb7)
             clear hb7))
        go_ret
        exact ⟨rfl, H7.out.below⟩
      · have hc2 : ¬ cap - 1 = 0 := by omega
        have hc4 : (1 : Int) < cap := by omega
        have hc5 : 1 < cap := by omega
        have HSr2 := HSr (cap - 1) w5 Hb5.out
        have f1 : ¬ (20 : Int) < ((m : Int) + 1) := by omega
        have f2 : ((m : Int) + 1) ≤ 2 := by omega
        have f3 : (((m : Int) + 1) == 0) = false := by rw [beq_eq_false_iff_ne]; omega
        have f4 : m + 1 ≤ 2 := by omega
        go_wp2_with (first
          | ((with_reducible refine HSr2.out.mono ?_)
             rintro e w6 ⟨rfl, hb6⟩
             have H6 := Lib.hid (H5.out.ext hb6)
             have Hb6 := Lib.hid (Hb5.out.trans (hb6.mono Hb5.out.size))
             have d0 : w6.cell? ⟨g, o, none⟩ = some (.bool a.s) := (rangeAt_below Hra.out Hb6.out hg) 0 _ rfl
             have d1 : w6.cell? ⟨g, o + 1, none⟩ = some (.int .i64 a.pcp) := (rangeAt_below Hra.out Hb6.out hg) 1 _ rfl
             have d2 : w6.cell? ⟨g, o + 2, none⟩ = some (.bool a.dei) := (rangeAt_below Hra.out Hb6.out hg) 2 _ rfl
             have d3 : w6.cell? ⟨g, o + 3, none⟩ = some (.int .i64 a.vid) := (rangeAt_below Hra.out Hb6.out hg) 3 _ rfl
             clear hb6)
          | ((with_reducible refine (HRt.out _).mono ?_)
             rintro e w7 ⟨rfl, hb7⟩
             have H7 := Lib.hid (H6.out.ext hb7)
             clear hb7))
        go_ret
        exact ⟨rfl, H7.out.below⟩
end Go.Proofs.YtkicbabfgahmkaaDoor

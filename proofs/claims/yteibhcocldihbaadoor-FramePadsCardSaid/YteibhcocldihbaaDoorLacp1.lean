/- lacp: what may be (short, party, Right, Mark). -/
import Derived.Test.YteibhcocldihbaaDoorRows
import Derived.Test.YteibhcocldihbaaDoorKit
import Derived.Test.YteibhcocldihbaaDoorCells
import Derived.Test.YteibhcocldihbaaDoorHeldG
import Derived.Test.YteibhcocldihbaaDoorLacpM
set_option linter.all false
namespace Go.Proofs.YteibhcocldihbaaDoor
open Go.RowKit
def Pty.vals (p : Pty) : List Value := .int .i64 p.sp :: (p.sys.vals ++ [.int .i64 p.key, .int .i64 p.pp, .int .i64 p.port, .int .i64 p.st])
def Lac.vals (l : Lac) : List Value := l.ac.vals ++ (l.pa.vals ++ [.int .i64 l.delay])
theorem Pty.len (p : Pty) : p.vals.length = 11 := rfl
theorem Lac.len (l : Lac) : l.vals.length = 23 := rfl
theorem Pty.one (p : Pty) : ∀ v ∈ p.vals, v.oneCell' = true := fun v hv => by
  simp only [Pty.vals, Ad.vals, List.cons_append, List.nil_append, List.mem_cons, List.not_mem_nil, or_false] at hv
  rcases hv with rfl | rfl | rfl | rfl | rfl | rfl | rfl | rfl | rfl | rfl | rfl <;> rfl
theorem Lac.one (l : Lac) : ∀ v ∈ l.vals, v.oneCell' = true := fun v hv => by
  simp only [Lac.vals, List.mem_append, List.mem_cons, List.not_mem_nil, or_false] at hv
  rcases hv with hv | hv | rfl
  · exact Pty.one _ v hv
  · exact Pty.one _ v hv
  · rfl
theorem info83 : (Tryd.prog.info? 83).map (·.size) = some 11 := by kernel_rfl
theorem info85 : (Tryd.prog.info? 85).map (·.size) = some 23 := by kernel_rfl
set_option maxRecDepth 100000 in
set_option maxHeartbeats 1000000 in
theorem short_any (l : List Int) (g cap n : Nat) (hn : l.length = n) (hm : n ≤ 100) (w : World) (h : ∀ i (hi : i < l.length), w.cell? ⟨g, i, none⟩ = some (.int .i64 l[i])) :
    Calls Tryd.prog 45 #[.slice (some ⟨g, 0, none⟩) n cap] w fun e w' => e = .returned (.bool (l.all sh)) ∧ w = w' := by
  have H := Lib.hid h
  have Hn := Lib.hid hn
  clear h hn
  go_enter Tryd.func45, Tryd.ntmps45
  go_wp2_with fail
  go_loop [7] (fun i => ∃ k : Nat, k ≤ n ∧ i = .int .i64 k ∧ Hid (∀ j (hj : j < l.length), j < k → sh l[j] = true)) (fun i => n - (intOf i).toNat)
  case atStart => exact ⟨0, by omega, rfl, Lib.hid (fun j _ h => by omega)⟩
  case round =>
    obtain ⟨k, hk, rfl, HA⟩ := hrel
    by_cases hlt : k < n
    · have hkl : k < l.length := by rw [Hn.out]; exact hlt
      have hc := H.out k hkl
      have Hs : Hid (∀ x, l[k] = x → sh x = true → ∀ j (hj : j < l.length), j < k + 1 → sh l[j] = true) := Lib.hid (fun x hx hs j hj hjk => by
        by_cases e : j = k
        · subst e; rw [hx]; exact hs
        · exact HA.out j hj (by omega))
      have Ha : Hid (∀ x, l[k] = x → sh x = false → l.all sh = false) := Lib.hid (fun x hx hs => by
        rw [List.all_eq_false]
        exact ⟨l[k], List.getElem_mem hkl, by rw [hx, hs]; exact Bool.false_ne_true⟩)
      generalize hx : l[k] = x at hc
      have Hx := Lib.hid hx
      clear hx
      by_cases h0 : x < 0
      · go_wp2_with fail
        go_ret
        exact ⟨by rw [Ha.out x Hx.out (by simp [sh]; omega)]; rfl, rfl⟩
      · by_cases h1 : 65535 < x
        · go_wp2_with fail
          go_ret
          exact ⟨by rw [Ha.out x Hx.out (by simp [sh]; omega)]; rfl, rfl⟩
        · go_wp2_with fail
          go_round
          case rel => exact ⟨k + 1, by omega, by go_num, Lib.hid (Hs.out x Hx.out (by simp [sh]; omega))⟩
          case measure => simp [intOf]; omega
    · go_wp2_with fail
      go_ret
      exact ⟨by rw [List.all_eq_true.2 (fun x hx => by
        obtain ⟨j, hj, rfl⟩ := List.getElem_of_mem hx
        exact HA.out j hj (by have := Hn.out; omega))]; rfl, rfl⟩
theorem four_cells {w : World} {g : Nat} (a b c d : Int) {t : TypeId} (hg : w.heap.size = g) :
    ∀ i (hi : i < [a, b, c, d].length), (w.alloc (.cells #[.int .i64 a, .int .i64 b, .int .i64 c, .int .i64 d] t)).cell? ⟨g, i, none⟩ = some (.int .i64 [a, b, c, d][i]) := by
  subst hg
  intro i hi
  rw [World.cell?_alloc_mark]
  match i, hi with
  | 0, _ | 1, _ | 2, _ | 3, _ => rfl
theorem one_cell {w : World} {g : Nat} (a : Int) {t : TypeId} (hg : w.heap.size = g) :
    ∀ i (hi : i < [a].length), (w.alloc (.cells #[.int .i64 a] t)).cell? ⟨g, i, none⟩ = some (.int .i64 [a][i]) := by
  subst hg
  intro i hi
  rw [World.cell?_alloc_mark]
  match i, hi with
  | 0, _ => rfl
set_option maxRecDepth 100000 in
set_option maxHeartbeats 1000000 in
theorem party_any (p : Pty) (w : World) :
    Calls Tryd.prog 132 #[.agg p.vals.toArray] w fun e w' => e = .returned (.bool p.okB) ∧ Below w.heap.size w w' := by
  have hE : p.okB = ([p.sp, p.key, p.pp, p.port].all sh && (decide (0 ≤ p.st) && decide (p.st ≤ 255))) := by simp [Pty.okB, Bool.and_assoc]
  rw [hE]
  clear hE
  obtain ⟨sp, ⟨a, b, c, d, e, f⟩, key, pp, port, st⟩ := p
  simp only [Pty.vals, Ad.vals, List.cons_append, List.nil_append]
  cases hS : [sp, key, pp, port].all sh with
  | false =>
    have HS := Lib.hid hS
    clear hS
    go_enter Tryd.func132, Tryd.ntmps132
    go_wp2_with (first
      | ((with_reducible refine (short_any [sp, key, pp, port] _ _ 4 rfl (by decide) _ (four_cells sp key pp port (by simp))).mono ?_); rintro e w1 ⟨rfl, rfl⟩; rw [HS.out]))
    go_ret
    exact ⟨rfl, by go_grown⟩
  | true =>
    have HS := Lib.hid hS
    clear hS
    by_cases h0 : 0 ≤ st
    all_goals by_cases h1 : st ≤ 255
    all_goals first
      | (exfalso; omega)
      | skip
    all_goals
      go_enter Tryd.func132, Tryd.ntmps132
      go_wp2_with (first
        | ((with_reducible refine (short_any [sp, key, pp, port] _ _ 4 rfl (by decide) _ (four_cells sp key pp port (by simp))).mono ?_); rintro e w1 ⟨rfl, rfl⟩; rw [HS.out]))
      go_ret
      exact ⟨by simp [h0, h1], by go_grown⟩
theorem lac_rng {w : World} {g : Nat} {l : Lac} (h : Box w g l.vals) : w.rangeAt g 0 l.ac.vals ∧ w.rangeAt g 11 l.pa.vals ∧ w.cell? ⟨g, 22, none⟩ = some (.int .i64 l.delay) := by
  have h1 := h.range
  refine ⟨fun i v hi => ?_, fun i v hi => ?_, h.cell 22⟩
  · refine h1 i v ?_
    show (l.ac.vals ++ _)[i]? = some v
    rw [List.getElem?_append_left (List.getElem?_eq_some_iff.1 hi).1]; exact hi
  · have := h1 (11 + i) v (by
      show (l.ac.vals ++ (l.pa.vals ++ _))[11 + i]? = some v
      rw [List.getElem?_append_right (by rw [Pty.len]; omega), Pty.len, Nat.add_sub_cancel_left, List.getElem?_append_left (List.getElem?_eq_some_iff.1 hi).1]; exact hi)
    simpa using this
set_option maxRecDepth 100000 in
set_option maxHeartbeats 1000000 in
theorem lacRight_go (l : Lac) (w : World) (x y z : Bool) (Hx : Hid (l.ac.okB = x)) (Hy : Hid (l.pa.okB = y)) (Hz : Hid ([l.delay].all sh = z)) : Calls Tryd.prog 104 #[.agg l.vals.toArray] w fun e w' => e = .returned (.bool (x && (y && z))) ∧ Below w.heap.size w w' := by
  have HB := Lib.hid (Box.new w l.vals 85)
  have hb0 : Below w.heap.size w (w.alloc (.cells l.vals.toArray 85)) := (Below.refl _ _).alloc (Nat.le_refl _) _
  have hl0 : w.heap.size < (w.alloc (.cells l.vals.toArray 85)).heap.size := by simp
  cases x
  · go_enter Tryd.func104, Tryd.ntmps104
    go_upto_region 1 with (fail)
    generalize w.alloc (.cells l.vals.toArray 85) = W0 at *
    go_wp2_with (first
      | (with_reducible refine wpList_load_rng (ty := 83) l.ac.vals (by with_unfolding_all rfl) (lac_rng HB.out).1 Tryd.underlying83 (by with_unfolding_all rfl) (by with_unfolding_all exact info83) ?_)
      | ((with_reducible refine (party_any l.ac _).mono ?_)
         rintro e w1 ⟨rfl, hb1⟩
         rw [Hx.out]))
    go_ret
    exact ⟨rfl, hb0.trans (hb1.mono hb0.size)⟩
  · cases y
    · go_enter Tryd.func104, Tryd.ntmps104
      go_upto_region 1 with (fail)
      generalize w.alloc (.cells l.vals.toArray 85) = W0 at *
      go_wp2_with (first
        | (with_reducible refine wpList_load_rng (ty := 83) l.ac.vals (by with_unfolding_all rfl) (lac_rng HB.out).1 Tryd.underlying83 (by with_unfolding_all rfl) (by with_unfolding_all exact info83) ?_)
        | (with_reducible refine wpList_load_rngG (ty := 83) l.pa.vals (by with_unfolding_all rfl) (by with_unfolding_all rfl) (lac_rng HB1.out).2.1 Tryd.underlying83 (by with_unfolding_all rfl) (by with_unfolding_all exact info83) ?_)
        | ((with_reducible refine (party_any l.ac W0).mono ?_)
           rintro e w1 ⟨rfl, hb1⟩
           rw [Hx.out]
           have HB1 := Lib.hid (HB.out.below hb1 hl0))
        | ((with_reducible refine (party_any l.pa _).mono ?_)
           rintro e w2 ⟨rfl, hb2⟩
           rw [Hy.out]))
      go_ret
      exact ⟨rfl, (hb0.trans (hb1.mono hb0.size)).trans (hb2.mono (Nat.le_trans hb0.size hb1.size))⟩
    · cases z
      all_goals
        go_enter Tryd.func104, Tryd.ntmps104
        go_upto_region 1 with (fail)
        generalize w.alloc (.cells l.vals.toArray 85) = W0 at *
        go_wp2_with (first
          | (with_reducible refine wpList_load_rng (ty := 83) l.ac.vals (by with_unfolding_all rfl) (lac_rng HB.out).1 Tryd.underlying83 (by with_unfolding_all rfl) (by with_unfolding_all exact info83) ?_)
          | (with_reducible refine wpList_load_rngG (ty := 83) l.pa.vals (by with_unfolding_all rfl) (by with_unfolding_all rfl) (lac_rng HB1.out).2.1 Tryd.underlying83 (by with_unfolding_all rfl) (by with_unfolding_all exact info83) ?_)
          | ((with_reducible refine (party_any l.ac W0).mono ?_)
             rintro e w1 ⟨rfl, hb1⟩
             rw [Hx.out]
             have HB1 := Lib.hid (HB.out.below hb1 hl0))
          | ((with_reducible refine (party_any l.pa _).mono ?_)
             rintro e w2 ⟨rfl, hb2⟩
             rw [Hy.out]
             have HB2 := Lib.hid (HB1.out.below hb2 (Nat.lt_of_lt_of_le hl0 hb1.size))
             have c22 := (lac_rng HB2.out).2.2)
          | ((with_reducible refine (short_any [l.delay] _ _ 1 rfl (by decide) _ (one_cell l.delay rfl)).mono ?_)
             rintro e w3 ⟨rfl, rfl⟩
             rw [Hz.out]))
        go_ret
        exact ⟨rfl, ((hb0.trans (hb1.mono hb0.size)).trans (hb2.mono (Nat.le_trans hb0.size hb1.size))).alloc (Nat.le_trans hb0.size (Nat.le_trans hb1.size hb2.size)) _⟩
theorem lacRight_any (l : Lac) (w : World) : Calls Tryd.prog 104 #[.agg l.vals.toArray] w fun e w' => e = .returned (.bool l.okB) ∧ Below w.heap.size w w' := by
  have hE : l.okB = (l.ac.okB && (l.pa.okB && [l.delay].all sh)) := by simp [Lac.okB, Bool.and_assoc]
  rw [hE]
  exact lacRight_go l w _ _ _ (Lib.hid rfl) (Lib.hid rfl) (Lib.hid rfl)
end Go.Proofs.YteibhcocldihbaaDoor

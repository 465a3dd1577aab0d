/- PauseAll. -/
import Derived.Test.YtidcjbanhdpkkaaPauseLong
import Derived.Test.YtidcjbanhdpkkaaPauseRead
import Derived.Test.YtidcjbanhdpkkaaPick
namespace Go.Proofs.Ytidcjbanhdpkkaa
open Go.RowKit
def factBytes : List UInt8 := [1, 1, 0, 2, 0, 5, 0, 6, 0, 0, 0, 0, 0, 0, 0, 0, 0, 0, 0, 0]
theorem fact_write (w : World) : Calls Try.prog 27 #[.agg #[.bool true, .int .i64 2, .int .i64 5, .int .i64 6, .int .i64 0, .int .i64 0, .int .i64 0, .int .i64 0, .int .i64 0, .int .i64 0]] w fun e w' =>
    e = .returned (.tuple #[.string ⟨factBytes.toArray⟩, .nilIface]) ∧ Below w.heap.size w w' :=
  pauseWrite_pfc 2 5 6 0 0 0 0 0 0 (by decide) (by decide) w
theorem fact_read (w : World) : Calls Try.prog 28 #[.string ⟨factBytes.toArray⟩] w fun e w' =>
    e = .returned (.tuple #[.agg #[.bool true, .int .i64 2, .int .i64 5, .int .i64 6, .int .i64 0, .int .i64 0, .int .i64 0, .int .i64 0, .int .i64 0, .int .i64 0], .nilIface]) ∧ Below w.heap.size w w' :=
  pauseRead_pfc factBytes 2 (by decide) (by decide) (by decide) (by decide) (by decide) (by decide) w
theorem fact_long1 (w : World) : Calls Try.prog 11 #[.agg #[.bool true, .int .i64 2, .int .i64 5, .int .i64 6, .int .i64 0, .int .i64 0, .int .i64 0, .int .i64 0, .int .i64 0, .int .i64 0], .int .i64 1] w fun e w' =>
    e = .returned (.int .i64 6) ∧ Below w.heap.size w w' :=
  pauseLong_any true 2 5 6 0 0 0 0 0 0 1 (by decide) (by decide) w
theorem fact_long0 (w : World) : Calls Try.prog 11 #[.agg #[.bool true, .int .i64 2, .int .i64 5, .int .i64 6, .int .i64 0, .int .i64 0, .int .i64 0, .int .i64 0, .int .i64 0, .int .i64 0], .int .i64 0] w fun e w' =>
    e = .returned (.int .i64 0) ∧ Below w.heap.size w w' :=
  pauseLong_any true 2 5 6 0 0 0 0 0 0 0 (by decide) (by decide) w
set_option maxRecDepth 100000 in
set_option maxHeartbeats 1000000 in
theorem paused_any (w : World) : Calls Try.prog 9 #[] w fun e w' => e = .returned (.bool true) ∧ Below w.heap.size w w' := by
  go_enter Try.func9, Try.ntmps9
  go_wp2_with fail
  refine (fact_write _).mono ?_
  rintro e w1 ⟨rfl, hb1⟩
  have hC := cells_later hb1
  have hlt : w.heap.size < w1.heap.size := by have := hb1.size; simp at this; omega
  have b1 : Below w.heap.size w w1 := ((Below.refl _ w).alloc (Nat.le_refl _) _).trans (hb1.mono (by simp))
  clear hb1
  go_wp2_with fail
  refine (fact_read _).mono ?_
  rintro e w2 ⟨rfl, hb2⟩
  have hC2 : ∀ j, w2.cell? ⟨w.heap.size, j, none⟩ = (#[.bool true, .int .i64 2, .int .i64 5, .int .i64 6, .int .i64 0, .int .i64 0, .int .i64 0, .int .i64 0, .int .i64 0, .int .i64 0] : Array Value)[j]? := fun j => (hb2.cell (p := ⟨w.heap.size, j, none⟩) hlt).trans (hC j)
  have hlt2 : w.heap.size < w2.heap.size := Nat.lt_of_lt_of_le hlt hb2.size
  have b2 := b1.trans (hb2.mono b1.size)
  have h20 : factBytes.length = 20 := rfl
  have hq1 : ∀ (x y : Operand) (W : World), (eqGuard .eql 24 x y (.agg #[.bool true, .int .i64 2, .int .i64 5, .int .i64 6, .int .i64 0, .int .i64 0, .int .i64 0, .int .i64 0, .int .i64 0, .int .i64 0]) (.agg #[.bool true, .int .i64 2, .int .i64 5, .int .i64 6, .int .i64 0, .int .i64 0, .int .i64 0, .int .i64 0, .int .i64 0, .int .i64 0])).run Try.prog W = .ok () W := fun x y W => by kernel_rfl
  have hq2 : ∀ (W : World), (binOp .eql 24 (.agg #[.bool true, .int .i64 2, .int .i64 5, .int .i64 6, .int .i64 0, .int .i64 0, .int .i64 0, .int .i64 0, .int .i64 0, .int .i64 0]) (.agg #[.bool true, .int .i64 2, .int .i64 5, .int .i64 6, .int .i64 0, .int .i64 0, .int .i64 0, .int .i64 0, .int .i64 0, .int .i64 0])).run Try.prog W = .ok (.bool true) W := fun W => by kernel_rfl
  clear hC hb2 b1 hlt
  go_wp2_with fail
  refine (fact_long1 _).mono ?_
  rintro e w3 ⟨rfl, hb3⟩
  have hs3 := hb3.size
  have hC3 : ∀ j, w3.cell? ⟨w.heap.size, j, none⟩ = (#[.bool true, .int .i64 2, .int .i64 5, .int .i64 6, .int .i64 0, .int .i64 0, .int .i64 0, .int .i64 0, .int .i64 0, .int .i64 0] : Array Value)[j]? := fun j => (hb3.cell (p := ⟨w.heap.size, j, none⟩) (by simp; omega)).trans ((World.cell?_alloc_lt _ _ _ hlt2).trans (hC2 j))
  have b3 : Below w.heap.size w w3 := (b2.alloc b2.size _).trans (hb3.mono (by simp; have := b2.size; omega))
  clear hC2 hb3 b2 hs3
  go_wp2_with fail
  refine (fact_long0 _).mono ?_
  rintro e w4 ⟨rfl, hb4⟩
  go_wp2_with fail
  go_ret
  exact ⟨rfl, b3.trans (hb4.mono b3.size)⟩
theorem right_range {b : Bool} {en : Int} {ts : List Int} (h : pauseRight b en ts = true) : 0 ≤ en ∧ en ≤ 255 := by
  unfold pauseRight at h
  simp at h; omega
set_option maxRecDepth 100000 in
set_option maxHeartbeats 1000000 in
theorem pauseAll (b : Bool) (en t0 t1 t2 t3 t4 t5 t6 t7 c o : Int) (w : World) :
    Calls Try.prog 3 #[.agg #[.bool b, .int .i64 en, .int .i64 t0, .int .i64 t1, .int .i64 t2, .int .i64 t3, .int .i64 t4, .int .i64 t5, .int .i64 t6, .int .i64 t7], .int .i64 c, .int .i64 o] w fun e w' =>
      e = .returned (.bool true) ∧ Below w.heap.size w w' := by
  by_cases hR : pauseRight b en [t0, t1, t2, t3, t4, t5, t6, t7] = true
  · obtain ⟨h1, h2⟩ := right_range hR
    obtain ⟨m, rfl⟩ := Int.eq_ofNat_of_zero_le h1
    have hm : m ≤ 255 := by omega
    have k1 := pickN_lt c 8 (by decide)
    have k2 := pickN_lt o 8 (by decide)
    generalize hp : pickN c 8 = k at k1
    generalize hq : pickN o 8 = j at k2
    have Hp := Lib.hid hp
    have Hq := Lib.hid hq
    clear hp hq
    have HR := Lib.hid hR
    clear hR h1 h2
    go_enter Try.func3, Try.ntmps3
    go_wp2_with fail
    refine (paused_any _).mono ?_
    rintro e w1 ⟨rfl, hb1⟩
    have hC := cells_later hb1
    have hlt : w.heap.size < w1.heap.size := by have := hb1.size; simp at this; omega
    have b1 : Below w.heap.size w w1 := ((Below.refl _ w).alloc (Nat.le_refl _) _).trans (hb1.mono (by simp))
    clear hb1
    go_wp2_with fail
    refine (pauseRight_any b (m : Int) t0 t1 t2 t3 t4 t5 t6 t7 _).mono ?_
    rintro e w2 ⟨rfl, hb2⟩
    rw [HR.out]
    have hC2 : ∀ j, w2.cell? ⟨w.heap.size, j, none⟩ = (#[.bool b, .int .i64 (m : Int), .int .i64 t0, .int .i64 t1, .int .i64 t2, .int .i64 t3, .int .i64 t4, .int .i64 t5, .int .i64 t6, .int .i64 t7] : Array Value)[j]? := fun j => (hb2.cell (p := ⟨w.heap.size, j, none⟩) hlt).trans (hC j)
    have hlt2 : w.heap.size < w2.heap.size := Nat.lt_of_lt_of_le hlt hb2.size
    have b2 := b1.trans (hb2.mono b1.size)
    clear hC hb2 b1 hlt
    go_wp2_with fail
    refine wp_region_ext (by kernel_rfl) (by kernel_rfl) ?_
    repeat (go_big_quiet_step (first
      | (go_at_call 12; refine Calls.ext_same _ (pick_any _ 8 _ (by decide) (by decide)))
      | (go_at_call 11; first | (rw [Hp.out]; refine Calls.ext _ (pauseLong_any b m t0 t1 t2 t3 t4 t5 t6 t7 k hm k1 _)) | (rw [Hq.out]; refine Calls.ext _ (pauseLong_any b m t0 t1 t2 t3 t4 t5 t6 t7 j hm k2 _)))))
    refine wpQuiet_nil ?_
    rintro w3 ⟨⟨_, hb3⟩, rfl⟩
    have hC3 : ∀ j, w3.cell? ⟨w.heap.size, j, none⟩ = (#[.bool b, .int .i64 (m : Int), .int .i64 t0, .int .i64 t1, .int .i64 t2, .int .i64 t3, .int .i64 t4, .int .i64 t5, .int .i64 t6, .int .i64 t7] : Array Value)[j]? := fun j => (hb3.cell (p := ⟨w.heap.size, j, none⟩) hlt2).trans (hC2 j)
    have hlt3 : w.heap.size < w3.heap.size := Nat.lt_of_lt_of_le hlt2 hb3.size
    have b3 := b2.trans (hb3.mono b2.size)
    clear hC2 hb3 b2 hlt2
    cases b
    · have e1 : pauseLong false m [t0, t1, t2, t3, t4, t5, t6, t7] k = t0 := rfl
      have e2 : pauseLong false m [t0, t1, t2, t3, t4, t5, t6, t7] j = t0 := rfl
      rw [e1, e2]
      clear e1 e2
      go_wp2_with fail
      go_ret
      exact ⟨rfl, b3⟩
    · generalize hl : pauseLong true m [t0, t1, t2, t3, t4, t5, t6, t7] k = a
      have hb := bit_and m k (by omega)
      have hz : a = 0 ∨ (m / 2 ^ k % 2 = 1 ∧ [t0, t1, t2, t3, t4, t5, t6, t7].getD k 0 = a) := by
        rw [← hl]
        unfold pauseLong
        rw [if_neg (by simp)]
        split
        · exact .inr ⟨by assumption, rfl⟩
        · exact .inl rfl
      clear hl
      by_cases ha : a = 0
      · subst ha
        clear hz hb
        go_wp2_with fail
        refine wp_region_ext (by kernel_rfl) (by kernel_rfl) ?_
        repeat (go_big_quiet_step (fail))
        refine wpQuiet_nil ?_
        rintro w4 ⟨⟨_, hb4⟩, rfl⟩
        go_wp2_with fail
        go_ret
        exact ⟨rfl, b3.trans (hb4.mono b3.size)⟩
      · obtain ⟨z1, z2⟩ := hz.resolve_left ha
        have ha' : (a == 0) = false := by simpa using ha
        have hcell : (#[.bool true, .int .i64 (m : Int), .int .i64 t0, .int .i64 t1, .int .i64 t2, .int .i64 t3, .int .i64 t4, .int .i64 t5, .int .i64 t6, .int .i64 t7] : Array Value)[2 + k]? = some (.int .i64 a) := by
          have := pause_cell true (m : Int) t0 t1 t2 t3 t4 t5 t6 t7 0 w k k1
          rw [World.cell?_alloc_mark, z2] at this
          exact this
        have hb' : bits .and .i64 ((m : Int) / 2 ^ k) 1 = 1 := by rw [hb, z1]; rfl
        have hpk : ∀ W, Calls Try.prog 12 #[.int .i64 c, .int .i64 8] W fun e w' => e = .returned (.int .i64 (k : Int)) ∧ W = w' := fun W => by
          have h := pick_any c 8 W (by decide) (by decide)
          rw [Hp.out] at h
          exact h
        have Hpk := Lib.hid hpk
        clear hz z1 z2 ha hb hpk
        go_wp2_with fail
        refine wp_region_ext (by kernel_rfl) (by kernel_rfl) ?_
        repeat (go_big_quiet_step (exact Calls.ext_same _ (Hpk.out _)))
        refine wpQuiet_nil ?_
        rintro w4 ⟨⟨_, hb4⟩, rfl⟩
        go_wp2_with fail
        go_ret
        exact ⟨rfl, b3.trans (hb4.mono b3.size)⟩
  · go_enter Try.func3, Try.ntmps3
    go_wp2_with fail
    refine (paused_any _).mono ?_
    rintro e w1 ⟨rfl, hb1⟩
    have hC := cells_later hb1
    have b1 : Below w.heap.size w w1 := ((Below.refl _ w).alloc (Nat.le_refl _) _).trans (hb1.mono (by simp))
    clear hb1
    go_wp2_with fail
    refine (pauseRight_any b en t0 t1 t2 t3 t4 t5 t6 t7 _).mono ?_
    rintro e w2 ⟨rfl, hb2⟩
    rw [show pauseRight b en [t0, t1, t2, t3, t4, t5, t6, t7] = false by simpa using hR]
    go_wp2_with fail
    go_ret
    exact ⟨rfl, b1.trans (hb2.mono b1.size)⟩
end Go.Proofs.Ytidcjbanhdpkkaa

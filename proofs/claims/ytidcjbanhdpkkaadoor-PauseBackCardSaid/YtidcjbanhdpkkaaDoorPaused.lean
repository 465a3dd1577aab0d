/- The fact of a pause. (Cut out of PauseAll.) -/
import Derived.Test.YtidcjbanhdpkkaaDoorPauseLong
import Derived.Test.YtidcjbanhdpkkaaDoorPauseRead
import Derived.Test.YtidcjbanhdpkkaaDoorPick
namespace Go.Proofs.YtidcjbanhdpkkaaDoor
open Go.RowKit
def factBytes : List UInt8 := [1, 1, 0, 2, 0, 5, 0, 6, 0, 0, 0, 0, 0, 0, 0, 0, 0, 0, 0, 0]
theorem fact_write (w : World) : Calls Tryd.prog 24 #[.agg #[.bool true, .int .i64 2, .int .i64 5, .int .i64 6, .int .i64 0, .int .i64 0, .int .i64 0, .int .i64 0, .int .i64 0, .int .i64 0]] w fun e w' =>
    e = .returned (.tuple #[.string ⟨factBytes.toArray⟩, .nilIface]) ∧ Below w.heap.size w w' :=
  pauseWrite_pfc 2 5 6 0 0 0 0 0 0 (by decide) (by decide) w
theorem fact_read (w : World) : Calls Tryd.prog 25 #[.string ⟨factBytes.toArray⟩] w fun e w' =>
    e = .returned (.tuple #[.agg #[.bool true, .int .i64 2, .int .i64 5, .int .i64 6, .int .i64 0, .int .i64 0, .int .i64 0, .int .i64 0, .int .i64 0, .int .i64 0], .nilIface]) ∧ Below w.heap.size w w' :=
  pauseRead_pfc factBytes 2 (by decide) (by decide) (by decide) (by decide) (by decide) (by decide) w
theorem fact_long1 (w : World) : Calls Tryd.prog 55 #[.agg #[.bool true, .int .i64 2, .int .i64 5, .int .i64 6, .int .i64 0, .int .i64 0, .int .i64 0, .int .i64 0, .int .i64 0, .int .i64 0], .int .i64 1] w fun e w' =>
    e = .returned (.int .i64 6) ∧ Below w.heap.size w w' :=
  pauseLong_any true 2 5 6 0 0 0 0 0 0 1 (by decide) (by decide) w
theorem fact_long0 (w : World) : Calls Tryd.prog 55 #[.agg #[.bool true, .int .i64 2, .int .i64 5, .int .i64 6, .int .i64 0, .int .i64 0, .int .i64 0, .int .i64 0, .int .i64 0, .int .i64 0], .int .i64 0] w fun e w' =>
    e = .returned (.int .i64 0) ∧ Below w.heap.size w w' :=
  pauseLong_any true 2 5 6 0 0 0 0 0 0 0 (by decide) (by decide) w
set_option maxRecDepth 100000 in
set_option maxHeartbeats 1000000 in
theorem paused_any (w : World) : Calls Tryd.prog 22 #[] w fun e w' => e = .returned (.bool true) ∧ Below w.heap.size w w' := by
  go_enter Tryd.func22, Tryd.ntmps22
  go_wp2_with fail
  refine (fact_write _).mono ?_
  rintro e w1 ⟨rfl, hb1⟩
  have hC := cells_later hb1
  have hlt : w.heap.size < w1.heap.size := by have := hb1.size; simp at this; omega
  have b1 : Below w.heap.size w w1 := ((Below.refl _ w).alloc (Nat.le_refl _) _).trans (hb1.mono (by simp))
  clear hb1
  go_wp2_with fail
  refine (fact_read _).mono ?_
  rintro e w2 ⟨rfl, hb2⟩
  have hC2 : ∀ j, w2.cell? ⟨w.heap.size, j, none⟩ = (#[.bool true, .int .i64 2, .int .i64 5, .int .i64 6, .int .i64 0, .int .i64 0, .int .i64 0, .int .i64 0, .int .i64 0, .int .i64 0] : Array Value)[j]? := fun j => (hb2.cell (p := ⟨w.heap.size, j, none⟩) hlt).trans (hC j)
  have hlt2 : w.heap.size < w2.heap.size := Nat.lt_of_lt_of_le hlt hb2.size
  have b2 := b1.trans (hb2.mono b1.size)
  have h20 : factBytes.length = 20 := rfl
  have hq1 : ∀ (x y : Operand) (W : World), (eqGuard .eql 60 x y (.agg #[.bool true, .int .i64 2, .int .i64 5, .int .i64 6, .int .i64 0, .int .i64 0, .int .i64 0, .int .i64 0, .int .i64 0, .int .i64 0]) (.agg #[.bool true, .int .i64 2, .int .i64 5, .int .i64 6, .int .i64 0, .int .i64 0, .int .i64 0, .int .i64 0, .int .i64 0, .int .i64 0])).run Tryd.prog W = .ok () W := fun x y W => by kernel_rfl
  have hq2 : ∀ (W : World), (binOp .eql 60 (.agg #[.bool true, .int .i64 2, .int .i64 5, .int .i64 6, .int .i64 0, .int .i64 0, .int .i64 0, .int .i64 0, .int .i64 0, .int .i64 0]) (.agg #[.bool true, .int .i64 2, .int .i64 5, .int .i64 6, .int .i64 0, .int .i64 0, .int .i64 0, .int .i64 0, .int .i64 0, .int .i64 0])).run Tryd.prog W = .ok (.bool true) W := fun W => by kernel_rfl
  clear hC hb2 b1 hlt
  go_wp2_with fail
  refine (fact_long1 _).mono ?_
  rintro e w3 ⟨rfl, hb3⟩
  have hs3 := hb3.size
  have hC3 : ∀ j, w3.cell? ⟨w.heap.size, j, none⟩ = (#[.bool true, .int .i64 2, .int .i64 5, .int .i64 6, .int .i64 0, .int .i64 0, .int .i64 0, .int .i64 0, .int .i64 0, .int .i64 0] : Array Value)[j]? := fun j => (hb3.cell (p := ⟨w.heap.size, j, none⟩) (by simp; omega)).trans ((World.cell?_alloc_lt _ _ _ hlt2).trans (hC2 j))
  have b3 : Below w.heap.size w w3 := (b2.alloc b2.size _).trans (hb3.mono (by simp; have := b2.size; omega))
  clear hC2 hb3 b2 hs3
  go_wp2_with fail
  refine (fact_long0 _).mono ?_
  rintro e w4 ⟨rfl, hb4⟩
  go_wp2_with fail
  go_ret
  exact ⟨rfl, b3.trans (hb4.mono b3.size)⟩
end Go.Proofs.YtidcjbanhdpkkaaDoor

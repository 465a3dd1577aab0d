/- pause: Right, Write, equality. -/
import Derived.Test.YtidcjbanhdpkkaaDoorLacp9
import Derived.Test.YtidcjbanhdpkkaaDoorPaused
import Derived.Test.YtidcjbanhdpkkaaDoorPaM
namespace Go.Proofs.YtidcjbanhdpkkaaDoor
open Go.RowKit
def Pa.vals (x : Pa) : List Value := [.bool x.pfc, .int .i64 x.en, .int .i64 x.t0, .int .i64 x.t1, .int .i64 x.t2, .int .i64 x.t3, .int .i64 x.t4, .int .i64 x.t5, .int .i64 x.t6, .int .i64 x.t7]
theorem Pa.len (x : Pa) : x.vals.length = 10 := rfl
theorem Pa.one (x : Pa) : ∀ v ∈ x.vals, v.oneCell' = true := fun v hv => by
  simp only [Pa.vals, List.mem_cons, List.not_mem_nil, or_false] at hv
  rcases hv with rfl | rfl | rfl | rfl | rfl | rfl | rfl | rfl | rfl | rfl <;> rfl
theorem info60 : (Tryd.prog.info? 60).map (·.size) = some 10 := by kernel_rfl
@[reducible] def zPause : List Value := [.bool false, .int .i64 0, .int .i64 0, .int .i64 0, .int .i64 0, .int .i64 0, .int .i64 0, .int .i64 0, .int .i64 0, .int .i64 0]
theorem pa_zero : Tryd.prog.built 60 [] = some zPa.vals.toArray := by kernel_rfl
theorem paRight_any (x : Pa) (w : World) : Calls Tryd.prog 23 #[.agg x.vals.toArray] w fun e w' => e = .returned (.bool x.okB) ∧ Below w.heap.size w w' :=
  pauseRight_any x.pfc x.en x.t0 x.t1 x.t2 x.t3 x.t4 x.t5 x.t6 x.t7 w
theorem paWrite_pfc (x : Pa) (hx : x.okB = true) (hp : x.pfc = true) (w : World) :
    Calls Tryd.prog 24 #[.agg x.vals.toArray] w fun e w' => e = .returned (.tuple #[.string ⟨x.bytes.toArray⟩, .nilIface]) ∧ Below w.heap.size w w' := by
  have ho := (Pa.ok_iff.1 hx).2
  have ha := Pa.ok_all hx
  have hn := Pa.nats_lt hx
  have hb : x.bytes = pfcBytes x.en.toNat x.nats := by unfold Pa.bytes; rw [if_pos hp]
  have hv : x.vals = [.bool true, .int .i64 (x.en.toNat : Int), .int .i64 (x.t0.toNat : Int), .int .i64 (x.t1.toNat : Int), .int .i64 (x.t2.toNat : Int), .int .i64 (x.t3.toNat : Int), .int .i64 (x.t4.toNat : Int), .int .i64 (x.t5.toNat : Int), .int .i64 (x.t6.toNat : Int), .int .i64 (x.t7.toNat : Int)] := by
    have h2 := (Pa.of_nats hx hp).symm
    rw [h2]
    simp only [Pa.of, Pa.nats, Pa.vals, List.getD_cons_zero, List.getD_cons_succ, Int.toNat_natCast]
    congr 2
    rw [Int.toNat_of_nonneg ho.1]
  rw [hb, hv]
  exact pauseWrite_pfc x.en.toNat x.t0.toNat x.t1.toNat x.t2.toNat x.t3.toNat x.t4.toNat x.t5.toNat x.t6.toNat x.t7.toNat (by omega) hn w
set_option maxRecDepth 100000 in
set_option maxHeartbeats 2000000 in
theorem paWrite_plain (x : Pa) (hx : x.okB = true) (hp : x.pfc = false) (w : World) :
    Calls Tryd.prog 24 #[.agg x.vals.toArray] w fun e w' => e = .returned (.tuple #[.string ⟨x.bytes.toArray⟩, .nilIface]) ∧ Below w.heap.size w w' := by
  have hn := Pa.nats_lt hx x.t0.toNat (by simp [Pa.nats])
  have ht := Pa.plain hx hp
  have hbs : x.bytes = beBytes 1 2 ++ beBytes x.t0.toNat 2 := by unfold Pa.bytes; rw [if_neg (by rw [hp]; decide)]
  have HK := Lib.hid hx
  have e0 : x.vals[0]? = some (.bool false) := by rw [← hp]; rfl
  have e2 : x.vals[2]? = some (.int .i64 (x.t0.toNat : Int)) := by rw [← ht]; simp [Pa.vals, Pa.of]
  rw [hbs]
  clear hx hp ht hbs
  generalize x.t0.toNat = n at *
  have HB := Lib.hid (Box.new w x.vals 60)
  have hb0 : Below w.heap.size w (w.alloc (.cells x.vals.toArray 60)) := (Below.refl _ _).alloc (Nat.le_refl _) _
  have hl0 : w.heap.size < (w.alloc (.cells x.vals.toArray 60)).heap.size := by simp
  have M1 : ∀ W, Calls Tryd.prog 45 #[.int .i64 1, .int .i64 2] W fun e w' => e = .returned (.string ⟨(beBytes 1 2).toArray⟩) ∧ Below W.heap.size W w' := fun W => must_ok 1 2 (by decide) (by decide) (by decide) W
  have M2 : ∀ W, Calls Tryd.prog 45 #[.int .i64 (n : Int), .int .i64 2] W fun e w' => e = .returned (.string ⟨(beBytes n 2).toArray⟩) ∧ Below W.heap.size W w' := fun W => must_ok n 2 (by decide) (by decide) (by omega) W
  have HM1 := Lib.hid M1
  have HM2 := Lib.hid M2
  have L1 : (beBytes 1 2).length ≤ 2 := by rw [beBytes_len]; decide
  have L2 : (beBytes n 2).length ≤ 2 := by rw [beBytes_len]; decide
  clear M1 M2
  generalize beBytes 1 2 = B1 at *
  generalize beBytes n 2 = B2 at *
  go_enter Tryd.func24, Tryd.ntmps24
  go_upto_region 1 with (fail)
  generalize World.alloc _ _ = W0 at *
  go_upto_region 3 with (first
    | (with_reducible refine wpList_load_rng (ty := 60) x.vals (by with_unfolding_all rfl) HB.out.range Tryd.underlying60 (by with_unfolding_all rfl) (by with_unfolding_all exact info60) ?_)
    | ((with_reducible refine (paRight_any x W0).mono ?_)
       rintro e w1 ⟨rfl, hb1⟩
       rw [HK.out]))
  have HB1 := Lib.hid (HB.out.below hb1 hl0)
  have hl1 := Nat.lt_of_lt_of_le hl0 hb1.size
  have c0 : w1.cell? ⟨w.heap.size, 0, none⟩ = some (.bool false) := by
    rw [HB1.out.cell 0]; exact e0
  have c2 : w1.cell? ⟨w.heap.size, 2, none⟩ = some (.int .i64 (n : Int)) := by
    rw [HB1.out.cell 2]; exact e2
  go_upto_region 4 with (fail)
  refine wp_region_ext (by kernel_rfl) (by kernel_rfl) ?_
  repeat (go_big_quiet_step (first | (with_reducible exact Calls.ext _ (HM1.out _)) | (with_reducible exact Calls.ext _ (HM2.out _))))
  refine wpQuiet_nil ?_
  rintro w2 ⟨⟨_, hb2⟩, rfl⟩
  go_wp2_with fail
  go_ret2
  exact ⟨by simp, (hb0.trans (hb1.mono hb0.size)).trans (hb2.mono (Nat.le_trans hb0.size hb1.size))⟩
theorem paWrite_ok (x : Pa) (hx : x.okB = true) (w : World) :
    Calls Tryd.prog 24 #[.agg x.vals.toArray] w fun e w' => e = .returned (.tuple #[.string ⟨x.bytes.toArray⟩, .nilIface]) ∧ Below w.heap.size w w' := by
  cases hp : x.pfc with
  | true => exact paWrite_pfc x hx hp w
  | false => exact paWrite_plain x hx hp w
set_option maxRecDepth 100000 in
set_option maxHeartbeats 1000000 in
theorem pa_self (x : Pa) (d : Nat) (W : World) : (Op.equalIn (d + 1 + 1 + 1) 60 (.agg x.vals.toArray) (.agg x.vals.toArray)).run Tryd.prog W = .ok true W := by
  have u3 := Tryd.underlying3
  have a3 := Tryd.isAgg3
  have z3 := Tryd.sizeOf3
  have u4 := Tryd.underlying4
  have a4 := Tryd.isAgg4
  have z4 := Tryd.sizeOf4
  have a8 := Tryd.isAgg58
  have z8 := Tryd.sizeOf58
  have hS : Tryd.prog.underlying 60 = some (.struct (Tryd.prog.fieldsOf 60)) := by kernel_rfl
  have hp : Tryd.prog.stoodInHeld 60 = false := by kernel_rfl
  obtain ⟨b, en, t0, t1, t2, t3, t4, t5, t6, t7⟩ := x
  have h1 : (Op.equalIn (d + 2) 58 (.agg #[.int .i64 t0, .int .i64 t1, .int .i64 t2, .int .i64 t3, .int .i64 t4, .int .i64 t5, .int .i64 t6, .int .i64 t7]) (.agg #[.int .i64 t0, .int .i64 t1, .int .i64 t2, .int .i64 t3, .int .i64 t4, .int .i64 t5, .int .i64 t6, .int .i64 t7])).run Tryd.prog W = .ok true W := by
    rw [run_equalIn_array W (d + 1) 8 1 _ 3 _ _ Tryd.underlying58 z3]
    simp only [show List.range' 0 8 = [0, 1, 2, 3, 4, 5, 6, 7] from rfl]
    go_simp
  simp only [Pa.vals]
  rw [run_equalIn_agg W (d + 1 + 1) 60 _ _ hS hp]
  simp only [Program.fieldsOf, Tryd.underlying60]
  go_simp
theorem pa_eq (x : Pa) (W : World) : (binOp .eql 60 (.agg x.vals.toArray) (.agg x.vals.toArray)).run Tryd.prog W = .ok (.bool true) W := by
  rw [run_eql_struct, show (10000 : Nat) = 9997 + 1 + 1 + 1 from rfl, pa_self]; rfl
theorem pa_neq (x : Pa) (W : World) : (binOp .neq 60 (.agg x.vals.toArray) (.agg x.vals.toArray)).run Tryd.prog W = .ok (.bool false) W := by
  rw [run_neq_struct, show (10000 : Nat) = 9997 + 1 + 1 + 1 from rfl, pa_self]; rfl
theorem pa_guard (op : BinOp) (x : Pa) (p q : Operand) (W : World) : (eqGuard op 60 p q (.agg x.vals.toArray) (.agg x.vals.toArray)).run Tryd.prog W = .ok () W := run_eqGuard_agg W op _ p q _ _ (by kernel_rfl)
end Go.Proofs.YtidcjbanhdpkkaaDoor

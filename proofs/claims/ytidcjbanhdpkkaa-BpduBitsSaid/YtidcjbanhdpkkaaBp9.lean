/- BpduBits. -/
import Derived.Test.YtidcjbanhdpkkaaBp8
import Derived.Test.YtidcjbanhdpkkaaOpenF
namespace Go.Proofs.Ytidcjbanhdpkkaa
open Go.RowKit
set_option maxRecDepth 100000 in
theorem fl_types : Try.prog.cellTypes Try.prog.depth 46 = some [4, 4, 3, 4, 4, 4, 4] := by kernel_rfl
theorem fl_struct : ∃ fs, Try.prog.underlying 46 = some (.struct fs) := ⟨_, Try.underlying46⟩
set_option maxRecDepth 100000 in
set_option maxHeartbeats 1000000 in
theorem open_fl {H : Type} {enc : TypeId × Value → H} {w : World} {r : Reach} {base : Nat} {b0 : Nat} {sp : Nat → Bool} {hd : Bool} {v : Value} {d : DataW H} {ps : List MemPlace}
    (h : Value.okWide Try.prog w r base 46 v) (_ : DataW.Trod enc Try.prog w b0 sp hd 46 v d ps) : ∃ x : Fl, v = .agg x.vals.toArray := by
  obtain ⟨cs, rfl, hl, hc⟩ := flatV (.inl fl_struct) fl_types (by kernel_rfl) h
  match cs, hl with
  | [z0, z1, z2, z3, z4, z5, z6], _ =>
    obtain ⟨x0, e0, k0⟩ := hc 0 4 rfl
    obtain ⟨x1, e1, k1⟩ := hc 1 4 rfl
    obtain ⟨x2, e2, k2⟩ := hc 2 3 rfl
    obtain ⟨x3, e3, k3⟩ := hc 3 4 rfl
    obtain ⟨x4, e4, k4⟩ := hc 4 4 rfl
    obtain ⟨x5, e5, k5⟩ := hc 5 4 rfl
    obtain ⟨x6, e6, k6⟩ := hc 6 4 rfl
    obtain rfl : z0 = x0 := Option.some.inj e0
    obtain rfl : z1 = x1 := Option.some.inj e1
    obtain rfl : z2 = x2 := Option.some.inj e2
    obtain rfl : z3 = x3 := Option.some.inj e3
    obtain rfl : z4 = x4 := Option.some.inj e4
    obtain rfl : z5 = x5 := Option.some.inj e5
    obtain rfl : z6 = x6 := Option.some.inj e6
    obtain ⟨c0, rfl⟩ := cell_bool Try.underlying4 k0
    obtain ⟨c1, rfl⟩ := cell_bool Try.underlying4 k1
    obtain ⟨c2, rfl, h2⟩ := cell_int Try.underlying3 k2
    obtain ⟨c3, rfl⟩ := cell_bool Try.underlying4 k3
    obtain ⟨c4, rfl⟩ := cell_bool Try.underlying4 k4
    obtain ⟨c5, rfl⟩ := cell_bool Try.underlying4 k5
    obtain ⟨c6, rfl⟩ := cell_bool Try.underlying4 k6
    exact ⟨⟨c0, c1, c2, c3, c4, c5, c6⟩, rfl⟩
set_option maxRecDepth 100000 in
set_option maxHeartbeats 4000000 in
theorem law_BpduBits (v : Value) (f : Fl) (n : Int) (_ : (Lit.int .i64 n).wf = true) (w : World) (hv : v = .agg f.vals.toArray) :
    Calls Try.prog 6 #[v, .int .i64 n] w fun e w' => e = .returned (.bool true) ∧ Below w.heap.size w w' := by
  subst hv
  have H0 := Lib.hid ((St.init w).alloc f.vals 46)
  have hk := pickN_lt n 256 (by decide)
  have HPk : Hid (∀ W, Calls Try.prog 12 #[.int .i64 n, .int .i64 256] W fun e w' => e = .returned (.int .i64 (pickN n 256 : Nat)) ∧ W = w') := Lib.hid (fun W => pick_any n 256 W (by decide) (by decide))
  generalize pickN n 256 = k at hk HPk
  have HFl : Hid (∀ W, Calls Try.prog 21 #[.agg #[.bool f.change, .bool f.proposal, .int .i64 f.role, .bool f.learn, .bool f.pass, .bool f.agree, .bool f.ack]] W fun e w' => e = .returned (.bool f.okB) ∧ Below W.heap.size W w') := Lib.hid (fun W => flagsF_any f W)
  have HO := Lib.hid (fun W => of_any k hk W)
  have HOB := Lib.hid (fun W => byteF_any (Fl.of k) (Fl.of_ok k) W)
  rw [Fl.byte_of k hk] at HOB
  have HOF := Lib.hid (fun W => flagsF_any (Fl.of k) W)
  rw [Fl.of_ok k] at HOF
  generalize Fl.of k = fk at *
  cases hf : f.okB
  · have HFl := HFl
    rw [hf] at HFl
    clear hf
    go_enter Try.func6, Try.ntmps6
    go_upto_region 1 with (fail)
    generalize World.alloc _ _ = w0 at *
    go_upto_region 4 with (first
      | ((with_reducible refine (bridged_any _).mono ?_)
         rintro e w1 ⟨rfl, hb1⟩
         have H1 := Lib.hid (H0.out.ext hb1)
         clear hb1)
      | ((with_reducible refine (HPk.out _).mono ?_)
         rintro e w2 ⟨rfl, rfl⟩
         skip))
    have B1 := Blk.box (H1.out.at 0 rfl)
    have lt1 : w.heap.size < w1.heap.size := (H1.out.at 0 rfl).lt
    have f0 : w1.cell? ⟨w.heap.size, 0, none⟩ = some (.bool f.change) := B1.cell 0
    have f1 : w1.cell? ⟨w.heap.size, 1, none⟩ = some (.bool f.proposal) := B1.cell 1
    have f2 : w1.cell? ⟨w.heap.size, 2, none⟩ = some (.int .i64 f.role) := B1.cell 2
    have f3 : w1.cell? ⟨w.heap.size, 3, none⟩ = some (.bool f.learn) := B1.cell 3
    have f4 : w1.cell? ⟨w.heap.size, 4, none⟩ = some (.bool f.pass) := B1.cell 4
    have f5 : w1.cell? ⟨w.heap.size, 5, none⟩ = some (.bool f.agree) := B1.cell 5
    have f6 : w1.cell? ⟨w.heap.size, 6, none⟩ = some (.bool f.ack) := B1.cell 6
    clear B1
    refine wp_region_ext (by kernel_rfl) (by kernel_rfl) ?_
    repeat (go_big_quiet_step (first
      | (with_reducible exact Calls.ext _ (HFl.out _))
      | (with_reducible exact Calls.ext _ (HO.out _))
      | (with_reducible exact Calls.ext _ (HOB.out _))
      | (with_reducible exact Calls.ext _ (HOF.out _))))
    refine wpQuiet_nil ?_
    rintro w4 ⟨⟨_, hb4⟩, rfl⟩
    go_wp2_with fail
    go_ret
    exact ⟨rfl, (H1.out.ext hb4).below⟩
  · have HFl := HFl
    rw [hf] at HFl
    have HBy : Hid (∀ W, Calls Try.prog 23 #[.agg #[.bool f.change, .bool f.proposal, .int .i64 f.role, .bool f.learn, .bool f.pass, .bool f.agree, .bool f.ack]] W fun e w' => e = .returned (.int .i64 (f.byte : Int)) ∧ Below W.heap.size W w') := Lib.hid (fun W => byteF_any f hf W)
    have HBO := Lib.hid (fun W => of_any f.byte (Fl.byte_lt f hf) W)
    rw [Fl.of_byte f hf] at HBO
    have EQ : ∀ W, (binOp .eql 46 (.agg f.vals.toArray) (.agg #[.bool f.change, .bool f.proposal, .int .i64 f.role, .bool f.learn, .bool f.pass, .bool f.agree, .bool f.ack])).run Try.prog W = .ok (.bool true) W := fun W => by
      have := fl_eq f f W
      rw [decide_eq_true rfl] at this
      exact this
    have GQ : ∀ p q W, (eqGuard .eql 46 p q (.agg f.vals.toArray) (.agg #[.bool f.change, .bool f.proposal, .int .i64 f.role, .bool f.learn, .bool f.pass, .bool f.agree, .bool f.ack])).run Try.prog W = .ok () W := fun p q W => fl_guard .eql f f p q W
    generalize f.byte = fb at *
    clear hf
    go_enter Try.func6, Try.ntmps6
    go_upto_region 1 with (fail)
    generalize World.alloc _ _ = w0 at *
    go_upto_region 4 with (first
      | ((with_reducible refine (bridged_any _).mono ?_)
         rintro e w1 ⟨rfl, hb1⟩
         have H1 := Lib.hid (H0.out.ext hb1)
         clear hb1)
      | ((with_reducible refine (HPk.out _).mono ?_)
         rintro e w2 ⟨rfl, rfl⟩
         skip))
    have B1 := Blk.box (H1.out.at 0 rfl)
    have lt1 : w.heap.size < w1.heap.size := (H1.out.at 0 rfl).lt
    have f0 : w1.cell? ⟨w.heap.size, 0, none⟩ = some (.bool f.change) := B1.cell 0
    have f1 : w1.cell? ⟨w.heap.size, 1, none⟩ = some (.bool f.proposal) := B1.cell 1
    have f2 : w1.cell? ⟨w.heap.size, 2, none⟩ = some (.int .i64 f.role) := B1.cell 2
    have f3 : w1.cell? ⟨w.heap.size, 3, none⟩ = some (.bool f.learn) := B1.cell 3
    have f4 : w1.cell? ⟨w.heap.size, 4, none⟩ = some (.bool f.pass) := B1.cell 4
    have f5 : w1.cell? ⟨w.heap.size, 5, none⟩ = some (.bool f.agree) := B1.cell 5
    have f6 : w1.cell? ⟨w.heap.size, 6, none⟩ = some (.bool f.ack) := B1.cell 6
    clear B1
    refine wp_region_ext (by kernel_rfl) (by kernel_rfl) ?_
    repeat (go_big_quiet_step (first
      | (with_reducible exact Calls.ext _ (HFl.out _))
      | (with_reducible exact Calls.ext _ (HBy.out _))
      | (with_reducible exact Calls.ext _ (HBO.out _))
      | (with_reducible exact Calls.ext _ (HO.out _))
      | (with_reducible exact Calls.ext _ (HOB.out _))
      | (with_reducible exact Calls.ext _ (HOF.out _))))
    refine wpQuiet_nil ?_
    rintro w4 ⟨⟨_, hb4⟩, rfl⟩
    go_wp2_with fail
    go_ret
    exact ⟨rfl, (H1.out.ext hb4).below⟩
end Go.Proofs.Ytidcjbanhdpkkaa

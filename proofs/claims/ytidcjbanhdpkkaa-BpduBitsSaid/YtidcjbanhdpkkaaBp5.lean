/- bpdu.head, bpdu.Body, bpdu.Write. -/
import Derived.Test.YtidcjbanhdpkkaaBp2
namespace Go.Proofs.Ytidcjbanhdpkkaa
open Go.RowKit
set_option maxRecDepth 100000 in
set_option maxHeartbeats 1000000 in
theorem headF_any (kind : Int) (hk : kind = 1 ∨ kind = 2 ∨ kind = 3) (w : World) :
    Calls Try.prog 57 #[.int .i64 kind] w fun e w' => e = .returned (.string ⟨(headB kind).toArray⟩) ∧ w = w' := by
  rcases hk with rfl | rfl | rfl
  · have hix : ∀ W, (Instr.index 127 (.agg #[.string ⟨#[]⟩, .string ⟨#[0, 0, 0, 0]⟩, .string ⟨#[0, 0, 0, 128]⟩, .string ⟨#[0, 0, 2, 2]⟩]) (.int .i64 1)).run Try.prog W = .ok (.string ⟨#[0, 0, 0, 0]⟩) W := fun W => by kernel_rfl
    go_enter Try.func57, Try.ntmps57
    go_wp2_with fail
    go_ret
    exact ⟨rfl, rfl⟩
  · have hix : ∀ W, (Instr.index 127 (.agg #[.string ⟨#[]⟩, .string ⟨#[0, 0, 0, 0]⟩, .string ⟨#[0, 0, 0, 128]⟩, .string ⟨#[0, 0, 2, 2]⟩]) (.int .i64 2)).run Try.prog W = .ok (.string ⟨#[0, 0, 0, 128]⟩) W := fun W => by kernel_rfl
    go_enter Try.func57, Try.ntmps57
    go_wp2_with fail
    go_ret
    exact ⟨rfl, rfl⟩
  · have hix : ∀ W, (Instr.index 127 (.agg #[.string ⟨#[]⟩, .string ⟨#[0, 0, 0, 0]⟩, .string ⟨#[0, 0, 0, 128]⟩, .string ⟨#[0, 0, 2, 2]⟩]) (.int .i64 3)).run Try.prog W = .ok (.string ⟨#[0, 0, 2, 2]⟩) W := fun W => by kernel_rfl
    go_enter Try.func57, Try.ntmps57
    go_wp2_with fail
    go_ret
    exact ⟨rfl, rfl⟩
set_option maxRecDepth 100000 in
set_option maxHeartbeats 4000000 in
theorem bodyF_ok (b : Bp) (hb : b.Rest) (hf : b.fl.okB = true) (w : World) :
    Calls Try.prog 58 #[.agg b.vals.toArray] w fun e w' => e = .returned (.string ⟨b.body.toArray⟩) ∧ Below w.heap.size w w' := by
  have H0 := Lib.hid ((St.init w).alloc b.vals 94)
  have P1 := Lib.hid (pack_ok b.root hb.root)
  have P2 := Lib.hid (pack_ok b.sender hb.sender)
  have P3 := Lib.hid (packPort_ok b.port hb.port)
  have FB := Lib.hid (fun W => byteF_any b.fl hf W)
  have hfb := Fl.byte_lt b.fl hf
  obtain ⟨a4, a5, a6, a7, a8, a9, a10, a11, a12, a13⟩ := (⟨hb.cost0, hb.cost1, hb.age0, hb.age1, hb.max0, hb.max1, hb.hello0, hb.hello1, hb.wait0, hb.wait1⟩ : _ ∧ _ ∧ _ ∧ _ ∧ _ ∧ _ ∧ _ ∧ _ ∧ _ ∧ _)
  have M1 : Hid (∀ W, Calls Try.prog 32 #[.int .i64 (b.fl.byte : Int), .int .i64 1] W fun e w' => e = .returned (.string ⟨(beBytes b.fl.byte 1).toArray⟩) ∧ Below W.heap.size W w') := Lib.hid (fun W => must_ok b.fl.byte 1 (by decide) (by decide) (by omega) W)
  have M2 : Hid (∀ W, Calls Try.prog 32 #[.int .i64 b.cost, .int .i64 4] W fun e w' => e = .returned (.string ⟨(beBytes b.cost.toNat 4).toArray⟩) ∧ Below W.heap.size W w') := Lib.hid (fun W => by
    have := must_ok b.cost.toNat 4 (by decide) (by decide) (by omega) W
    rwa [Int.toNat_of_nonneg a4] at this)
  have MT : ∀ x : Int, 0 ≤ x → x ≤ 65535 → Hid (∀ W, Calls Try.prog 32 #[.int .i64 x, .int .i64 2] W fun e w' => e = .returned (.string ⟨(beBytes x.toNat 2).toArray⟩) ∧ Below W.heap.size W w') := fun x h0 h1 => Lib.hid (fun W => by
    have := must_ok x.toNat 2 (by decide) (by decide) (by omega) W
    rwa [Int.toNat_of_nonneg h0] at this)
  have M3 := MT b.age a6 a7
  have M4 := MT b.max a8 a9
  have M5 := MT b.hello a10 a11
  have M6 := MT b.wait a12 a13
  have LR : b.root.bytes.length ≤ 8 := Nat.le_of_eq (Br.bytes_len _)
  have LS : b.sender.bytes.length ≤ 8 := Nat.le_of_eq (Br.bytes_len _)
  have LP : b.port.bytes.length ≤ 2 := Nat.le_of_eq (Pt.bytes_len _)
  have L1 : (beBytes b.fl.byte 1).length ≤ 1 := Nat.le_of_eq (beBytes_len _ _)
  have L2 : (beBytes b.cost.toNat 4).length ≤ 4 := Nat.le_of_eq (beBytes_len _ _)
  have L3 : (beBytes b.age.toNat 2).length ≤ 2 := Nat.le_of_eq (beBytes_len _ _)
  have L4 : (beBytes b.max.toNat 2).length ≤ 2 := Nat.le_of_eq (beBytes_len _ _)
  have L5 : (beBytes b.hello.toNat 2).length ≤ 2 := Nat.le_of_eq (beBytes_len _ _)
  have L6 : (beBytes b.wait.toNat 2).length ≤ 2 := Nat.le_of_eq (beBytes_len _ _)
  have hBody : b.body = beBytes b.fl.byte 1 ++ b.root.bytes ++ beBytes b.cost.toNat 4 ++ b.sender.bytes ++ b.port.bytes ++ beBytes b.age.toNat 2 ++ beBytes b.max.toNat 2 ++ beBytes b.hello.toNat 2 ++ beBytes b.wait.toNat 2 := rfl
  have HBody := Lib.hid hBody
  clear MT hBody a4 a5 a6 a7 a8 a9 a10 a11 a12 a13 hfb hb
  generalize beBytes b.fl.byte 1 = B1 at *
  generalize beBytes b.cost.toNat 4 = B2 at *
  generalize beBytes b.age.toNat 2 = B3 at *
  generalize beBytes b.max.toNat 2 = B4 at *
  generalize beBytes b.hello.toNat 2 = B5 at *
  generalize beBytes b.wait.toNat 2 = B6 at *
  generalize b.root.bytes = BR at *
  generalize b.sender.bytes = BS at *
  generalize b.port.bytes = BP at *
  go_enter Try.func58, Try.ntmps58
  go_upto_region 1 with (fail)
  generalize World.alloc _ _ = W0 at *
  have R0 := Lib.hid (bp_in (Blk.box (H0.out.at 0 rfl))).root
  go_upto_region 2 with (first
    | (with_reducible refine wpList_load_rng (ty := 92) b.root.vals (by with_unfolding_all rfl) R0.out Try.underlying92 (by with_unfolding_all rfl) (by with_unfolding_all exact info92) ?_)
    | ((with_reducible refine (P1.out _).mono ?_)
       rintro e w1 ⟨rfl, hb1⟩
       have H1 := Lib.hid (H0.out.ext hb1)
       clear hb1))
  have R1 := Lib.hid (bp_in (Blk.box (H1.out.at 0 rfl))).sender
  go_upto_region 3 with (first
    | (with_reducible refine wpList_load_rng (ty := 92) b.sender.vals (by with_unfolding_all rfl) R1.out Try.underlying92 (by with_unfolding_all rfl) (by with_unfolding_all exact info92) ?_)
    | ((with_reducible refine (P2.out _).mono ?_)
       rintro e w2 ⟨rfl, hb2⟩
       have H2 := Lib.hid (H1.out.ext hb2)
       clear hb2))
  have R2 := Lib.hid (bp_in (Blk.box (H2.out.at 0 rfl))).port
  go_upto_region 4 with (first
    | (with_reducible refine wpList_load_rng (ty := 90) b.port.vals (by with_unfolding_all rfl) R2.out Try.underlying90 (by with_unfolding_all rfl) (by with_unfolding_all exact info90) ?_)
    | ((with_reducible refine (P3.out _).mono ?_)
       rintro e w3 ⟨rfl, hb3⟩
       have H3 := Lib.hid (H2.out.ext hb3)
       clear hb3))
  have I3 := bp_in (Blk.box (H3.out.at 0 rfl))
  have l3 : w.heap.size < w3.heap.size := (H3.out.at 0 rfl).lt
  have c16 := I3.cost
  have c27 := I3.age
  have c28 := I3.max
  have c29 := I3.hello
  have c30 := I3.wait
  have BX := Blk.box (H3.out.at 0 rfl)
  have f1 : w3.cell? ⟨w.heap.size, 1, none⟩ = some (.bool b.fl.change) := BX.cell 1
  have f2 : w3.cell? ⟨w.heap.size, 2, none⟩ = some (.bool b.fl.proposal) := BX.cell 2
  have f3 : w3.cell? ⟨w.heap.size, 3, none⟩ = some (.int .i64 b.fl.role) := BX.cell 3
  have f4 : w3.cell? ⟨w.heap.size, 4, none⟩ = some (.bool b.fl.learn) := BX.cell 4
  have f5 : w3.cell? ⟨w.heap.size, 5, none⟩ = some (.bool b.fl.pass) := BX.cell 5
  have f6 : w3.cell? ⟨w.heap.size, 6, none⟩ = some (.bool b.fl.agree) := BX.cell 6
  have f7 : w3.cell? ⟨w.heap.size, 7, none⟩ = some (.bool b.fl.ack) := BX.cell 7
  have FB' : Hid (∀ W, Calls Try.prog 23 #[.agg #[.bool b.fl.change, .bool b.fl.proposal, .int .i64 b.fl.role, .bool b.fl.learn, .bool b.fl.pass, .bool b.fl.agree, .bool b.fl.ack]] W fun e w' => e = .returned (.int .i64 (b.fl.byte : Int)) ∧ Below W.heap.size W w') := Lib.hid (fun W => FB.out W)
  clear I3 BX FB
  refine wp_region_ext (by kernel_rfl) (by kernel_rfl) ?_
  repeat (go_big_quiet_step (first
    | (with_reducible exact Calls.ext _ (FB'.out _))
    | (with_reducible exact Calls.ext _ (M1.out _))
    | (with_reducible exact Calls.ext _ (M2.out _))
    | (with_reducible exact Calls.ext _ (M3.out _))
    | (with_reducible exact Calls.ext _ (M4.out _))
    | (with_reducible exact Calls.ext _ (M5.out _))
    | (with_reducible exact Calls.ext _ (M6.out _))))
  refine wpQuiet_nil ?_
  rintro w4 ⟨⟨_, hb4⟩, rfl⟩
  go_wp2_with fail
  go_ret
  exact ⟨by rw [HBody.out]; simp [List.append_assoc], (H3.out.ext hb4).below⟩
end Go.Proofs.Ytidcjbanhdpkkaa

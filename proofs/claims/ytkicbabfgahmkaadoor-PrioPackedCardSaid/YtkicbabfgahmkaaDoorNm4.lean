/- The law PrioPacked. (Printed by tools/mknm3.py.) -/
import Derived.Test.YtkicbabfgahmkaaDoorNmA
import Derived.Test.YtkicbabfgahmkaaDoorOpsA
set_option linter.all false
namespace Go.Proofs.YtkicbabfgahmkaaDoor
open Go.RowKit
theorem be_two (x : Nat) : beBytes x 2 = [UInt8.ofNat (x / 256 % 256), UInt8.ofNat (x % 256)] := by
  show [UInt8.ofNat (x / 2 ^ 8 % 256), UInt8.ofNat (x / 2 ^ 0 % 256)] = _
  simp
theorem lex_num (x y : Nat) (A B : List Int) : lexI (((x / 256 : Nat) : Int) :: ((x % 256 : Nat) : Int) :: A) (((y / 256 : Nat) : Int) :: ((y % 256 : Nat) : Int) :: B) = if x < y then -1 else if y < x then 1 else lexI A B := by
  simp only [lexI]
  by_cases h1 : x < y
  · rw [if_pos h1]
    by_cases h2 : ((x / 256 : Nat) : Int) < ((y / 256 : Nat) : Int)
    · rw [if_pos h2]
    · rw [if_neg h2, if_neg (by omega), if_pos (by omega)]
  · rw [if_neg h1]
    by_cases h2 : y < x
    · rw [if_pos h2]
      by_cases h3 : ((y / 256 : Nat) : Int) < ((x / 256 : Nat) : Int)
      · rw [if_neg (by omega), if_pos h3]
      · rw [if_neg (by omega), if_neg h3, if_neg (by omega), if_pos (by omega)]
    · rw [if_neg h2, if_neg (by omega), if_neg (by omega), if_neg (by omega), if_neg (by omega)]
theorem lex_two (p e q f : Int) (x y : Nat) (A B : List Int) (hp : p % 4096 = 0) (hq : q % 4096 = 0) (he : 0 ≤ e ∧ e ≤ 4095) (hf : 0 ≤ f ∧ f ≤ 4095) (hx : (x : Int) = p + e) (hy : (y : Int) = q + f) :
    lexI (p :: e :: A) (q :: f :: B) = if x < y then -1 else if y < x then 1 else lexI A B := by
  simp only [lexI]
  by_cases h1 : x < y
  · rw [if_pos h1]
    by_cases h2 : p < q
    · rw [if_pos h2]
    · rw [if_neg h2, if_neg (by omega), if_pos (by omega)]
  · rw [if_neg h1]
    by_cases h2 : y < x
    · rw [if_pos h2]
      by_cases h3 : q < p
      · rw [if_neg (by omega), if_pos h3]
      · rw [if_neg (by omega), if_neg h3, if_neg (by omega), if_pos (by omega)]
    · rw [if_neg h2, if_neg (by omega), if_neg (by omega), if_neg (by omega), if_neg (by omega)]
theorem bytes_lex {a b : Br} (ha : a.okB = true) (hb : b.okB = true) : lexI (a.bytes.map fun c => (c.toNat : Int)) (b.bytes.map fun c => (c.toNat : Int)) = lexI a.key b.key := by
  obtain ⟨h1, h2, h3, h4, h5⟩ := Br.ok_iff.1 ha
  obtain ⟨k1, k2, k3, k4, k5⟩ := Br.ok_iff.1 hb
  have ea : (a.bytes.map fun c => (c.toNat : Int)) = (((a.prio + a.ext).toNat / 256 : Nat) : Int) :: (((a.prio + a.ext).toNat % 256 : Nat) : Int) :: (a.ad.list.map fun c => (c.toNat : Int)) := by
    unfold Br.bytes
    rw [be_two]
    simp only [List.map_append, List.map_cons, List.map_nil, List.cons_append, List.nil_append]
    rw [ofNat_toNat _ (by omega), ofNat_toNat _ (by omega), show (a.prio + a.ext).toNat / 256 % 256 = (a.prio + a.ext).toNat / 256 by omega]
  have eb : (b.bytes.map fun c => (c.toNat : Int)) = (((b.prio + b.ext).toNat / 256 : Nat) : Int) :: (((b.prio + b.ext).toNat % 256 : Nat) : Int) :: (b.ad.list.map fun c => (c.toNat : Int)) := by
    unfold Br.bytes
    rw [be_two]
    simp only [List.map_append, List.map_cons, List.map_nil, List.cons_append, List.nil_append]
    rw [ofNat_toNat _ (by omega), ofNat_toNat _ (by omega), show (b.prio + b.ext).toNat / 256 % 256 = (b.prio + b.ext).toNat / 256 by omega]
  rw [ea, eb, lex_num]
  exact (lex_two a.prio a.ext b.prio b.ext _ _ _ _ (by omega) (by omega) (by omega) (by omega) (by omega) (by omega)).symm
theorem packed_less {a b : Br} (ha : a.okB = true) (hb : b.okB = true) : Op.bytesLess a.bytes b.bytes = brLess a b := by
  rw [less_lex, bytes_lex ha hb]; rfl
theorem packed_eq {a b : Br} (ha : a.okB = true) (hb : b.okB = true) : (a.bytes == b.bytes) = decide (a = b) := by
  by_cases h : a = b
  · subst h; simp
  · have : ¬ a.bytes = b.bytes := fun e => h (Br.inj (lexI_zero (by rw [← bytes_lex ha hb, e]; exact lexI_refl _)))
    simp [h, this]
set_option maxRecDepth 100000 in
set_option maxHeartbeats 1000000 in
theorem pack_no (b : Br) (hb : b.okB = false) (w : World) :
    Calls Tryd.prog 32 #[.agg b.vals.toArray] w fun e w' => e = .returned (.tuple #[.string ⟨#[]⟩, .iface 80 (.int .i64 1)]) ∧ Below w.heap.size w w' := by
  have H0 := Lib.hid ((St.init w).alloc b.vals 53)
  have hR := fun W => prioRight_any b W
  rw [hb] at hR
  have HT := Lib.hid hR
  clear hb hR
  go_enter Tryd.func32, Tryd.ntmps32
  go_upto_region 1 with (fail)
  generalize World.alloc _ _ = w1 at *
  go_wp2_with (first
    | (with_reducible refine wpList_load_rng (ty := 53) b.vals (by with_unfolding_all rfl) (Blk.box (H0.out.at 0 rfl)).range Tryd.underlying53 (by with_unfolding_all rfl) (by with_unfolding_all exact info53) ?_)
    | ((with_reducible refine (HT.out _).mono ?_)
       rintro e w2 ⟨rfl, hb2⟩
       have H2 := Lib.hid (H0.out.ext hb2)
       clear hb2))
  go_ret2
  exact ⟨rfl, H2.out.below⟩
theorem pack_e (b : Br) (w : World) :
    Calls Tryd.prog 32 #[.agg b.vals.toArray] w fun e w' => ∃ (tx : List UInt8) (ev : Value), e = .returned (.tuple #[.string ⟨tx.toArray⟩, ev]) ∧ ((b.okB = true ∧ tx = b.bytes ∧ ev = .nilIface) ∨ (b.okB = false ∧ Bad ev)) ∧ Below w.heap.size w w' := by
  cases h : b.okB
  · refine (pack_no b h w).mono ?_
    rintro e w' ⟨rfl, hb⟩
    exact ⟨[], _, rfl, .inr ⟨rfl, _, _, rfl⟩, hb⟩
  · refine (pack_ok b h w).mono ?_
    rintro e w' ⟨rfl, hb⟩
    exact ⟨_, _, rfl, .inl ⟨rfl, rfl, rfl⟩, hb⟩
set_option maxRecDepth 100000 in
set_option maxHeartbeats 4000000 in
theorem law_PrioPacked (v0 : Value) (a : Br) (v1 : Value) (b : Br) (w : World) (hv0 : v0 = .agg a.vals.toArray) (hv1 : v1 = .agg b.vals.toArray) (hV : Vars w) :
    Calls Tryd.prog 10 #[v0, v1] w fun e w' => e = .returned (.bool true) ∧ Below w.heap.size w w' := by
  subst hv0 hv1
  have H0 := Lib.hid ((St.init w).alloc2 a.vals b.vals 53 53)
  have HA := Lib.hid (named_any _ (hV.ext H0.out.below))
  have HPa := Lib.hid (pack_e a)
  have HPb := Lib.hid (pack_e b)
  have HL : Hid (∀ W, Calls Tryd.prog 41 #[.agg #[.int .i64 a.prio, .int .i64 a.ext, .int .u8 a.ad.a.toNat, .int .u8 a.ad.b.toNat, .int .u8 a.ad.c.toNat, .int .u8 a.ad.d.toNat, .int .u8 a.ad.e.toNat, .int .u8 a.ad.f.toNat], .agg #[.int .i64 b.prio, .int .i64 b.ext, .int .u8 b.ad.a.toNat, .int .u8 b.ad.b.toNat, .int .u8 b.ad.c.toNat, .int .u8 b.ad.d.toNat, .int .u8 b.ad.e.toNat, .int .u8 b.ad.f.toNat]] W fun e w' => e = .returned (.bool (brLess a b)) ∧ Below W.heap.size W w') := Lib.hid (prLess_any a b)
  have HL1 := Lib.hid (prLess_any a b)
  have HE : ∀ W, (binOp .eql 53 (.agg #[.int .i64 a.prio, .int .i64 a.ext, .int .u8 a.ad.a.toNat, .int .u8 a.ad.b.toNat, .int .u8 a.ad.c.toNat, .int .u8 a.ad.d.toNat, .int .u8 a.ad.e.toNat, .int .u8 a.ad.f.toNat]) (.agg #[.int .i64 b.prio, .int .i64 b.ext, .int .u8 b.ad.a.toNat, .int .u8 b.ad.b.toNat, .int .u8 b.ad.c.toNat, .int .u8 b.ad.d.toNat, .int .u8 b.ad.e.toNat, .int .u8 b.ad.f.toNat])).run Tryd.prog W = .ok (.bool (decide (a = b))) W := fun W => br_eq a b W
  have HG : ∀ p q W, (eqGuard .eql 53 p q (.agg #[.int .i64 a.prio, .int .i64 a.ext, .int .u8 a.ad.a.toNat, .int .u8 a.ad.b.toNat, .int .u8 a.ad.c.toNat, .int .u8 a.ad.d.toNat, .int .u8 a.ad.e.toNat, .int .u8 a.ad.f.toNat]) (.agg #[.int .i64 b.prio, .int .i64 b.ext, .int .u8 b.ad.a.toNat, .int .u8 b.ad.b.toNat, .int .u8 b.ad.c.toNat, .int .u8 b.ad.d.toNat, .int .u8 b.ad.e.toNat, .int .u8 b.ad.f.toNat])).run Tryd.prog W = .ok () W := fun p q W => br_guard .eql a b p q W
  have Hpk : Hid (a.okB = true → b.okB = true → Op.bytesLess a.bytes b.bytes = brLess a b ∧ (a.bytes == b.bytes) = decide (a = b)) := Lib.hid (fun h1 h2 => ⟨packed_less h1 h2, packed_eq h1 h2⟩)
  clear hV
  generalize decide (a = b) = y at *
  generalize brLess a b = x at *
  go_enter Tryd.func10, Tryd.ntmps10
  go_upto_region 1 with (fail)
  generalize World.alloc (World.alloc _ _) _ = w1 at *
  go_upto_region 3 with (first
    | ((with_reducible refine HA.out.mono ?_)
       rintro e w2 ⟨rfl, hb2⟩
       have H2 := Lib.hid (H0.out.ext hb2)
       have R2 := Lib.hid (Blk.box (H2.out.at 1 rfl)).range
       clear hb2))
  go_upto_region 5 with (first
    | (with_reducible refine wpList_load_rng (ty := 53) a.vals (by with_unfolding_all rfl) R2.out Tryd.underlying53 (by with_unfolding_all rfl) (by with_unfolding_all exact info53) ?_)
    | ((with_reducible refine (HPa.out _).mono ?_)
       rintro e w3 ⟨tx, ev1, rfl, E1, hb3⟩
       have H3 := Lib.hid (H2.out.ext hb3)
       have R3 := Lib.hid (Blk.box (H3.out.at 0 rfl)).range
       clear hb3)
    | (with_reducible refine wpList_load_rng (ty := 53) b.vals (by with_unfolding_all rfl) R3.out Tryd.underlying53 (by with_unfolding_all rfl) (by with_unfolding_all exact info53) ?_)
    | ((with_reducible refine (HPb.out _).mono ?_)
       rintro e w4 ⟨ty, ev2, rfl, E2, hb4⟩
       have H4 := Lib.hid (H3.out.ext hb4)
       clear hb4))
  clear R2 R3 HPa HPb HA
  rcases E1 with ⟨a1, rfl, rfl⟩ | ⟨a1, t1, u1, rfl⟩
  rotate_left
  · clear a1
    go_wp2_with fail
    go_ret
    exact ⟨rfl, H4.out.below⟩
  rcases E2 with ⟨a2, rfl, rfl⟩ | ⟨a2, t1, u1, rfl⟩
  rotate_left
  · clear a1 a2
    go_wp2_with fail
    go_ret
    exact ⟨rfl, H4.out.below⟩
  obtain ⟨p1, p2⟩ := Hpk.out a1 a2
  clear a1 a2
  generalize a.bytes = S at *
  generalize b.bytes = T at *
  have c0 : w4.cell? ⟨w.heap.size, 0, none⟩ = some (.int .i64 a.prio) := (Blk.box (H4.out.at 1 rfl)).cell 0
  have c1 : w4.cell? ⟨w.heap.size, 1, none⟩ = some (.int .i64 a.ext) := (Blk.box (H4.out.at 1 rfl)).cell 1
  have c2 : w4.cell? ⟨w.heap.size, 2, none⟩ = some (.int .u8 a.ad.a.toNat) := (Blk.box (H4.out.at 1 rfl)).cell 2
  have c3 : w4.cell? ⟨w.heap.size, 3, none⟩ = some (.int .u8 a.ad.b.toNat) := (Blk.box (H4.out.at 1 rfl)).cell 3
  have c4 : w4.cell? ⟨w.heap.size, 4, none⟩ = some (.int .u8 a.ad.c.toNat) := (Blk.box (H4.out.at 1 rfl)).cell 4
  have c5 : w4.cell? ⟨w.heap.size, 5, none⟩ = some (.int .u8 a.ad.d.toNat) := (Blk.box (H4.out.at 1 rfl)).cell 5
  have c6 : w4.cell? ⟨w.heap.size, 6, none⟩ = some (.int .u8 a.ad.e.toNat) := (Blk.box (H4.out.at 1 rfl)).cell 6
  have c7 : w4.cell? ⟨w.heap.size, 7, none⟩ = some (.int .u8 a.ad.f.toNat) := (Blk.box (H4.out.at 1 rfl)).cell 7
  have d0 : w4.cell? ⟨(w.heap.size + 1), 0, none⟩ = some (.int .i64 b.prio) := (Blk.box (H4.out.at 0 rfl)).cell 0
  have d1 : w4.cell? ⟨(w.heap.size + 1), 1, none⟩ = some (.int .i64 b.ext) := (Blk.box (H4.out.at 0 rfl)).cell 1
  have d2 : w4.cell? ⟨(w.heap.size + 1), 2, none⟩ = some (.int .u8 b.ad.a.toNat) := (Blk.box (H4.out.at 0 rfl)).cell 2
  have d3 : w4.cell? ⟨(w.heap.size + 1), 3, none⟩ = some (.int .u8 b.ad.b.toNat) := (Blk.box (H4.out.at 0 rfl)).cell 3
  have d4 : w4.cell? ⟨(w.heap.size + 1), 4, none⟩ = some (.int .u8 b.ad.c.toNat) := (Blk.box (H4.out.at 0 rfl)).cell 4
  have d5 : w4.cell? ⟨(w.heap.size + 1), 5, none⟩ = some (.int .u8 b.ad.d.toNat) := (Blk.box (H4.out.at 0 rfl)).cell 5
  have d6 : w4.cell? ⟨(w.heap.size + 1), 6, none⟩ = some (.int .u8 b.ad.e.toNat) := (Blk.box (H4.out.at 0 rfl)).cell 6
  have d7 : w4.cell? ⟨(w.heap.size + 1), 7, none⟩ = some (.int .u8 b.ad.f.toNat) := (Blk.box (H4.out.at 0 rfl)).cell 7
  have RA := Lib.hid (Blk.box (H4.out.at 1 rfl)).range
  have RB := Lib.hid (Blk.box (H4.out.at 0 rfl)).range
  go_upto_region 7 with (fail)
  cases x <;> cases y
  all_goals
    go_wp2_with (first
      | (with_reducible refine wpList_load_rng (ty := 53) a.vals (by with_unfolding_all rfl) RA.out Tryd.underlying53 (by with_unfolding_all rfl) (by with_unfolding_all exact info53) ?_)
      | (with_reducible refine wpList_load_rng (ty := 53) b.vals (by with_unfolding_all rfl) RB.out Tryd.underlying53 (by with_unfolding_all rfl) (by with_unfolding_all exact info53) ?_)
      | ((with_reducible refine (HL1.out _).mono ?_)
         rintro e w5 ⟨rfl, hb5⟩
         have H5 := Lib.hid (H4.out.ext hb5)
         have c0 : w5.cell? ⟨w.heap.size, 0, none⟩ = some (.int .i64 a.prio) := (Blk.box (H5.out.at 1 rfl)).cell 0
         have c1 : w5.cell? ⟨w.heap.size, 1, none⟩ = some (.int .i64 a.ext) := (Blk.box (H5.out.at 1 rfl)).cell 1
         have c2 : w5.cell? ⟨w.heap.size, 2, none⟩ = some (.int .u8 a.ad.a.toNat) := (Blk.box (H5.out.at 1 rfl)).cell 2
         have c3 : w5.cell? ⟨w.heap.size, 3, none⟩ = some (.int .u8 a.ad.b.toNat) := (Blk.box (H5.out.at 1 rfl)).cell 3
         have c4 : w5.cell? ⟨w.heap.size, 4, none⟩ = some (.int .u8 a.ad.c.toNat) := (Blk.box (H5.out.at 1 rfl)).cell 4
         have c5 : w5.cell? ⟨w.heap.size, 5, none⟩ = some (.int .u8 a.ad.d.toNat) := (Blk.box (H5.out.at 1 rfl)).cell 5
         have c6 : w5.cell? ⟨w.heap.size, 6, none⟩ = some (.int .u8 a.ad.e.toNat) := (Blk.box (H5.out.at 1 rfl)).cell 6
         have c7 : w5.cell? ⟨w.heap.size, 7, none⟩ = some (.int .u8 a.ad.f.toNat) := (Blk.box (H5.out.at 1 rfl)).cell 7
         have d0 : w5.cell? ⟨(w.heap.size + 1), 0, none⟩ = some (.int .i64 b.prio) := (Blk.box (H5.out.at 0 rfl)).cell 0
         have d1 : w5.cell? ⟨(w.heap.size + 1), 1, none⟩ = some (.int .i64 b.ext) := (Blk.box (H5.out.at 0 rfl)).cell 1
         have d2 : w5.cell? ⟨(w.heap.size + 1), 2, none⟩ = some (.int .u8 b.ad.a.toNat) := (Blk.box (H5.out.at 0 rfl)).cell 2
         have d3 : w5.cell? ⟨(w.heap.size + 1), 3, none⟩ = some (.int .u8 b.ad.b.toNat) := (Blk.box (H5.out.at 0 rfl)).cell 3
         have d4 : w5.cell? ⟨(w.heap.size + 1), 4, none⟩ = some (.int .u8 b.ad.c.toNat) := (Blk.box (H5.out.at 0 rfl)).cell 4
         have d5 : w5.cell? ⟨(w.heap.size + 1), 5, none⟩ = some (.int .u8 b.ad.d.toNat) := (Blk.box (H5.out.at 0 rfl)).cell 5
         have d6 : w5.cell? ⟨(w.heap.size + 1), 6, none⟩ = some (.int .u8 b.ad.e.toNat) := (Blk.box (H5.out.at 0 rfl)).cell 6
         have d7 : w5.cell? ⟨(w.heap.size + 1), 7, none⟩ = some (.int .u8 b.ad.f.toNat) := (Blk.box (H5.out.at 0 rfl)).cell 7
         clear hb5))
    go_ret
    exact ⟨rfl, H5.out.below⟩
end Go.Proofs.YtkicbabfgahmkaaDoor

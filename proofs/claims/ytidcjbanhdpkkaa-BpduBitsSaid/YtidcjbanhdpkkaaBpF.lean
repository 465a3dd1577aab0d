/- bpdu: Flags, Byte, Of. -/
import Derived.Test.YtidcjbanhdpkkaaBp1
import Derived.Test.YtidcjbanhdpkkaaBpduBits
namespace Go.Proofs.Ytidcjbanhdpkkaa
open Go.RowKit
/-! ### Flags -/
set_option maxRecDepth 100000 in
set_option maxHeartbeats 1000000 in
theorem flagsF_any (f : Fl) (w : World) :
    Calls Try.prog 21 #[.agg f.vals.toArray] w fun e w' => e = .returned (.bool f.okB) ∧ Below w.heap.size w w' := by
  obtain ⟨c, p, r, l, s, g, a⟩ := f
  exact flags_any c p l s g a r w
theorem facc_byte : ∀ (c p l s g a : Bool) (r : Fin 4), facc (fbits c p l s g a) r.val 8 = Fl.byte ⟨c, p, ((r.val : Nat) : Int), l, s, g, a⟩ := by decide +kernel
theorem byteF_any (f : Fl) (h : f.okB = true) (w : World) :
    Calls Try.prog 23 #[.agg f.vals.toArray] w fun e w' => e = .returned (.int .i64 (f.byte : Int)) ∧ Below w.heap.size w w' := by
  simp only [Fl.okB, Bool.and_eq_true, decide_eq_true_eq] at h
  obtain ⟨c, p, r, l, s, g, a⟩ := f
  simp only [] at h
  obtain ⟨r, rfl⟩ := Int.eq_ofNat_of_zero_le h.1
  have hr : r < 4 := by omega
  have := byte_any c p l s g a r hr w
  rw [facc_byte c p l s g a ⟨r, hr⟩] at this
  exact this
theorem of_bit (n k : Nat) (hn : n < 9223372036854775808) : bits .and .i64 ((n : Int) / 2 ^ k) 1 = ((n / 2 ^ k % 2 : Nat) : Int) := by
  have h1 : n / 2 ^ k < 9223372036854775808 := Nat.lt_of_le_of_lt (Nat.div_le_self _ _) hn
  have hx : n / 2 ^ k &&& 1 < 2 ^ 63 := Nat.and_lt_two_pow _ (by omega)
  have e1 : (BitVec.ofInt 64 ((n / 2 ^ k : Nat) : Int)).toNat = n / 2 ^ k := by rw [BitVec.ofInt_natCast, BitVec.toNat_ofNat]; exact Nat.mod_eq_of_lt (by omega)
  have e2 : bits .and .i64 ((n / 2 ^ k : Nat) : Int) 1 = ((n / 2 ^ k &&& 1 : Nat) : Int) := by
    show IntKind.i64.wrap ((BitVec.ofInt 64 ((n / 2 ^ k : Nat) : Int) &&& BitVec.ofInt 64 (1 : Int)).toNat : Int) = _
    rw [BitVec.toNat_and, e1, show (BitVec.ofInt 64 (1 : Int)).toNat = 1 by decide, IntKind.wrap_i64]
    omega
  rw [nat_mask1] at e2
  simpa using e2
set_option maxRecDepth 100000 in
set_option maxHeartbeats 1000000 in
theorem ofbit_any (n k B : Nat) (hn : n < 256) (hk : k < 8) (w : World) (hc : w.cell? ⟨B, 0, none⟩ = some (.int .i64 (n : Int))) :
    Calls Try.prog 45 #[.int .i64 (k : Int), .pointer (some ⟨B, 0, none⟩)] w fun e w' =>
      e = .returned (.bool (decide (n / 2 ^ k % 2 = 1))) ∧ w = w' := by
  have hb := of_bit n k (by omega)
  rcases Nat.mod_two_eq_zero_or_one (n / 2 ^ k) with h2 | h2
  all_goals
    rw [h2] at hb ⊢
    have H2 := Lib.hid h2
    clear h2
    go_enter Try.func45, Try.ntmps45
    go_wp2_with fail
    go_ret
    exact ⟨rfl, rfl⟩
set_option maxRecDepth 100000 in
set_option maxHeartbeats 1000000 in
theorem of_any (n : Nat) (hn : n < 256) (w : World) :
    Calls Try.prog 22 #[.int .i64 (n : Int)] w fun e w' => e = .returned (.agg (Fl.of n).vals.toArray) ∧ Below w.heap.size w w' := by
  have hff : ∀ (args : Array Value) (W : World), (callFunc 45 args).run Try.prog W = .ok (.enter 45 args) W := fun args W => by kernel_rfl
  have H1 := Lib.hid ((St.init w).alloc2 [.int .i64 (n : Int)] [.bool false, .bool false, .int .i64 0, .bool false, .bool false, .bool false, .bool false] 3 46)
  have q : ∀ k : Nat, k < 8 → Hid (∀ W : World, W.cell? ⟨w.heap.size, 0, none⟩ = some (.int .i64 (n : Int)) → Calls Try.prog 45 #[.int .i64 (k : Int), .pointer (some ⟨w.heap.size, 0, none⟩)] W fun e w' => e = .returned (.bool (decide (n / 2 ^ k % 2 = 1))) ∧ W = w') := fun k hk => Lib.hid (fun W h => ofbit_any n k w.heap.size hn hk W h)
  have q0 : Hid (∀ W : World, W.cell? ⟨w.heap.size, 0, none⟩ = some (.int .i64 (n : Int)) → Calls Try.prog 45 #[.int .i64 0, .pointer (some ⟨w.heap.size, 0, none⟩)] W fun e w' => e = .returned (.bool (decide (n / 2 ^ 0 % 2 = 1))) ∧ W = w') := q 0 (by decide)
  have q1 : Hid (∀ W : World, W.cell? ⟨w.heap.size, 0, none⟩ = some (.int .i64 (n : Int)) → Calls Try.prog 45 #[.int .i64 1, .pointer (some ⟨w.heap.size, 0, none⟩)] W fun e w' => e = .returned (.bool (decide (n / 2 ^ 1 % 2 = 1))) ∧ W = w') := q 1 (by decide)
  have q4 : Hid (∀ W : World, W.cell? ⟨w.heap.size, 0, none⟩ = some (.int .i64 (n : Int)) → Calls Try.prog 45 #[.int .i64 4, .pointer (some ⟨w.heap.size, 0, none⟩)] W fun e w' => e = .returned (.bool (decide (n / 2 ^ 4 % 2 = 1))) ∧ W = w') := q 4 (by decide)
  have q5 : Hid (∀ W : World, W.cell? ⟨w.heap.size, 0, none⟩ = some (.int .i64 (n : Int)) → Calls Try.prog 45 #[.int .i64 5, .pointer (some ⟨w.heap.size, 0, none⟩)] W fun e w' => e = .returned (.bool (decide (n / 2 ^ 5 % 2 = 1))) ∧ W = w') := q 5 (by decide)
  have q6 : Hid (∀ W : World, W.cell? ⟨w.heap.size, 0, none⟩ = some (.int .i64 (n : Int)) → Calls Try.prog 45 #[.int .i64 6, .pointer (some ⟨w.heap.size, 0, none⟩)] W fun e w' => e = .returned (.bool (decide (n / 2 ^ 6 % 2 = 1))) ∧ W = w') := q 6 (by decide)
  have q7 : Hid (∀ W : World, W.cell? ⟨w.heap.size, 0, none⟩ = some (.int .i64 (n : Int)) → Calls Try.prog 45 #[.int .i64 7, .pointer (some ⟨w.heap.size, 0, none⟩)] W fun e w' => e = .returned (.bool (decide (n / 2 ^ 7 % 2 = 1))) ∧ W = w') := q 7 (by decide)
  clear q
  have hm3 : bits .and .i64 ((n : Int) / 4) 3 = ((n / 4 % 4 : Nat) : Int) := by
    have e1 : (BitVec.ofInt 64 ((n / 4 : Nat) : Int)).toNat = n / 4 := by rw [BitVec.ofInt_natCast, BitVec.toNat_ofNat]; exact Nat.mod_eq_of_lt (by omega)
    have e2 : bits .and .i64 ((n / 4 : Nat) : Int) 3 = ((n / 4 &&& 3 : Nat) : Int) := by
      have hx : n / 4 &&& 3 < 2 ^ 2 := Nat.and_lt_two_pow _ (by omega)
      show IntKind.i64.wrap ((BitVec.ofInt 64 ((n / 4 : Nat) : Int) &&& BitVec.ofInt 64 (3 : Int)).toNat : Int) = _
      rw [BitVec.toNat_and, e1, show (BitVec.ofInt 64 (3 : Int)).toNat = 3 by decide, IntKind.wrap_i64]
      omega
    rw [show n / 4 &&& 3 = n / 4 % 4 from Nat.and_two_pow_sub_one_eq_mod (n / 4) 2] at e2
    simpa using e2
  go_enter Try.func22, Try.ntmps22
  go_upto_region 2 with (fail)
  generalize World.alloc _ _ = W0 at *
  have cN : W0.cell? ⟨w.heap.size, 0, none⟩ = some (.int .i64 (n : Int)) := (Blk.box (H1.out.at 1 rfl)).cell 0
  have lN : w.heap.size < W0.heap.size := (H1.out.at 1 rfl).lt
  have hn0 : (0 : Int) ≤ n := by omega
  refine wp_region_ext_tail 16 (by kernel_rfl) (by kernel_rfl) ?_
  simp only [List.take_succ_cons, List.take_zero, List.drop_succ_cons, List.drop_zero]
  repeat (go_big_quiet_step ((first
    | (with_reducible exact Calls.ext_same _ (q0.out _ (by rw [Ext.cell _ _ _ lN]; exact cN)))
    | (with_reducible exact Calls.ext_same _ (q1.out _ (by rw [Ext.cell _ _ _ lN]; exact cN)))
    | (with_reducible exact Calls.ext_same _ (q4.out _ (by rw [Ext.cell _ _ _ lN]; exact cN)))
    | (with_reducible exact Calls.ext_same _ (q5.out _ (by rw [Ext.cell _ _ _ lN]; exact cN)))
    | (with_reducible exact Calls.ext_same _ (q6.out _ (by rw [Ext.cell _ _ _ lN]; exact cN)))
    | (with_reducible exact Calls.ext_same _ (q7.out _ (by rw [Ext.cell _ _ _ lN]; exact cN))))))
  refine wpQuiet_nil ?_
  rintro w2 ⟨⟨_, hb2⟩, rfl⟩
  have H2 := Lib.hid (H1.out.ext hb2)
  clear hb2 H1 q0 q1 q4 q5 q6 q7 hm3 cN
  have h4 : ((n / 4 % 4 : Nat) : Int) = (n : Int) / 4 % 4 := by omega
  have hE : (Fl.of n).vals = [.bool (decide (n % 2 = 1)), .bool (decide (n / 2 % 2 = 1)), .int .i64 ((n : Int) / 4 % 4), .bool (decide (n / 16 % 2 = 1)), .bool (decide (n / 32 % 2 = 1)), .bool (decide (n / 64 % 2 = 1)), .bool (decide (n / 128 % 2 = 1))] := by
    rw [← h4]; rfl
  have HO := Lib.hid (Fl.one (Fl.of n))
  have HE := Lib.hid hE
  clear hE h4
  generalize hV : (Fl.of n).vals = V at *
  have HV := Lib.hid hV
  clear hV
  go_wp2_with (first
    | (with_reducible refine wpList_store_blk (ty := 46) (o := 0) _ [.bool (decide (n % 2 = 1)), .bool (decide (n / 2 % 2 = 1)), .int .i64 ((n : Int) / 4 % 4), .bool (decide (n / 16 % 2 = 1)), .bool (decide (n / 32 % 2 = 1)), .bool (decide (n / 64 % 2 = 1)), .bool (decide (n / 128 % 2 = 1))] (by with_unfolding_all rfl) (by with_unfolding_all rfl) (H2.out.at 0 rfl) (by with_unfolding_all exact Nat.le_refl _) (by with_unfolding_all exact info46) (by rw [← HE.out]; exact HO.out) (fun W3 hBW3 hoW3 => ?_)))
  have B3 : Blk W3 (w.heap.size + 1) 46 [.bool (decide (n % 2 = 1)), .bool (decide (n / 2 % 2 = 1)), .int .i64 ((n : Int) / 4 % 4), .bool (decide (n / 16 % 2 = 1)), .bool (decide (n / 32 % 2 = 1)), .bool (decide (n / 64 % 2 = 1)), .bool (decide (n / 128 % 2 = 1))] := hBW3
  rw [← HE.out] at B3
  have h3 := H2.out.sets (L' := V) B3 hoW3
  have hVl : V.length = 7 := by rw [HE.out]; rfl
  exact ret_cell (cs := V) Try.results22 (by rfl) (Blk.box h3.head).range Try.underlying46 rfl (by rw [hVl]; exact info46) rfl ⟨by rw [HV.out], h3.below⟩
end Go.Proofs.Ytidcjbanhdpkkaa

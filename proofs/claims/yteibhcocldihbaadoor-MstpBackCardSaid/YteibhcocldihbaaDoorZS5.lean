/- prio: Right, Port, Pack, PackPort. bpdu.Flags, bpdu.Byte, bpdu.Of. bpdu: Flags, Byte, Of. lacp.Read. prio.Read, prio.ReadPort. Equality of flags, names and BPDUs, decided. lacp: markers; '==' at what both sides know. lacp: Mark, WriteMark, ReadMark. -/
import Derived.Test.YteibhcocldihbaaDoorZS4
import Derived.Test.YteibhcocldihbaaDoorZS2
import Derived.Test.YteibhcocldihbaaDoorZS1
import Derived.StillTailTactics
import Derived.Test.YteibhcocldihbaaDoorRows
import Derived.Test.YteibhcocldihbaaDoorKit
import Derived.Test.YteibhcocldihbaaDoorZS3
set_option linter.all false
namespace Go.Proofs.YteibhcocldihbaaDoor
open Go.RowKit
def Br.vals (x : Br) : List Value := .int .i64 x.prio :: .int .i64 x.ext :: x.ad.vals
def Pt.vals (x : Pt) : List Value := [.int .i64 x.prio, .int .i64 x.no]
def Fl.vals (x : Fl) : List Value := [.bool x.change, .bool x.proposal, .int .i64 x.role, .bool x.learn, .bool x.pass, .bool x.agree, .bool x.ack]
theorem Br.one (x : Br) : ∀ v ∈ x.vals, v.oneCell' = true := fun v hv => by
  simp only [Br.vals, Ad.vals, List.mem_cons, List.not_mem_nil, or_false] at hv
  rcases hv with rfl | rfl | rfl | rfl | rfl | rfl | rfl | rfl <;> rfl
theorem Pt.one (x : Pt) : ∀ v ∈ x.vals, v.oneCell' = true := fun v hv => by
  simp only [Pt.vals, List.mem_cons, List.not_mem_nil, or_false] at hv
  rcases hv with rfl | rfl <;> rfl
theorem Fl.one (x : Fl) : ∀ v ∈ x.vals, v.oneCell' = true := fun v hv => by
  simp only [Fl.vals, List.mem_cons, List.not_mem_nil, or_false] at hv
  rcases hv with rfl | rfl | rfl | rfl | rfl | rfl | rfl <;> rfl
theorem info40 : (Tryd.prog.info? 40).map (·.size) = some 8 := by kernel_rfl
theorem info42 : (Tryd.prog.info? 42).map (·.size) = some 2 := by kernel_rfl
theorem info38 : (Tryd.prog.info? 38).map (·.size) = some 7 := by kernel_rfl
set_option maxRecDepth 100000 in
set_option maxHeartbeats 1000000 in
theorem prioRight_any (b : Br) (w : World) :
    Calls Tryd.prog 62 #[.agg b.vals.toArray] w fun e w' => e = .returned (.bool b.okB) ∧ Below w.heap.size w w' := by
  obtain ⟨p, x, ⟨a, b, c, d, e, f⟩⟩ := b
  simp only [Br.vals, Ad.vals]
  by_cases h1 : 0 ≤ p
  · by_cases h2 : p ≤ 61440
    · by_cases h3 : p % 4096 = 0
      · have hb3 : (p % 4096 == 0) = true := by simp [h3]
        by_cases h4 : 0 ≤ x
        · by_cases h5 : x ≤ 4095
          · go_enter Tryd.func62, Tryd.ntmps62
            go_wp2_with fail
            go_ret
            exact ⟨by unfold Br.okB; simp [*] <;> intros <;> omega, by go_grown⟩
          · go_enter Tryd.func62, Tryd.ntmps62
            go_wp2_with fail
            go_ret
            exact ⟨by unfold Br.okB; simp [*] <;> intros <;> omega, by go_grown⟩
        · go_enter Tryd.func62, Tryd.ntmps62
          go_wp2_with fail
          go_ret
          exact ⟨by unfold Br.okB; simp [*] <;> intros <;> omega, by go_grown⟩
      · have hb3 : (p % 4096 == 0) = false := by simp [h3]
        go_enter Tryd.func62, Tryd.ntmps62
        go_wp2_with fail
        go_ret
        exact ⟨by unfold Br.okB; simp [*] <;> intros <;> omega, by go_grown⟩
    · go_enter Tryd.func62, Tryd.ntmps62
      go_wp2_with fail
      go_ret
      exact ⟨by unfold Br.okB; simp [*] <;> intros <;> omega, by go_grown⟩
  · go_enter Tryd.func62, Tryd.ntmps62
    go_wp2_with fail
    go_ret
    exact ⟨by unfold Br.okB; simp [*] <;> intros <;> omega, by go_grown⟩
set_option maxRecDepth 100000 in
set_option maxHeartbeats 1000000 in
theorem prioPort_any (b : Pt) (w : World) :
    Calls Tryd.prog 118 #[.agg b.vals.toArray] w fun e w' => e = .returned (.bool b.okB) ∧ Below w.heap.size w w' := by
  obtain ⟨p, x⟩ := b
  simp only [Pt.vals]
  by_cases h1 : 0 ≤ p
  · by_cases h2 : p ≤ 240
    · by_cases h3 : p % 16 = 0
      · have hb3 : (p % 16 == 0) = true := by simp [h3]
        by_cases h4 : 1 ≤ x
        · by_cases h5 : x ≤ 4095
          · go_enter Tryd.func118, Tryd.ntmps118
            go_wp2_with fail
            go_ret
            exact ⟨by unfold Pt.okB; simp [*] <;> intros <;> omega, by go_grown⟩
          · go_enter Tryd.func118, Tryd.ntmps118
            go_wp2_with fail
            go_ret
            exact ⟨by unfold Pt.okB; simp [*] <;> intros <;> omega, by go_grown⟩
        · go_enter Tryd.func118, Tryd.ntmps118
          go_wp2_with fail
          go_ret
          exact ⟨by unfold Pt.okB; simp [*] <;> intros <;> omega, by go_grown⟩
      · have hb3 : (p % 16 == 0) = false := by simp [h3]
        go_enter Tryd.func118, Tryd.ntmps118
        go_wp2_with fail
        go_ret
        exact ⟨by unfold Pt.okB; simp [*] <;> intros <;> omega, by go_grown⟩
    · go_enter Tryd.func118, Tryd.ntmps118
      go_wp2_with fail
      go_ret
      exact ⟨by unfold Pt.okB; simp [*] <;> intros <;> omega, by go_grown⟩
  · go_enter Tryd.func118, Tryd.ntmps118
    go_wp2_with fail
    go_ret
    exact ⟨by unfold Pt.okB; simp [*] <;> intros <;> omega, by go_grown⟩
theorem or_int (a b : Nat) (ha : a < 65536) (hb : b < 65536) : bits .or .i64 (a : Int) (b : Int) = ((a ||| b : Nat) : Int) := by
  have hx : a ||| b < 2 ^ 16 := Nat.or_lt_two_pow (n := 16) ha hb
  have h1 : (BitVec.ofInt 64 (a : Int)).toNat = a := by rw [BitVec.ofInt_natCast, BitVec.toNat_ofNat]; exact Nat.mod_eq_of_lt (by omega)
  have h2 : (BitVec.ofInt 64 (b : Int)).toNat = b := by rw [BitVec.ofInt_natCast, BitVec.toNat_ofNat]; exact Nat.mod_eq_of_lt (by omega)
  show IntKind.i64.wrap ((BitVec.ofInt 64 (a : Int) ||| BitVec.ofInt 64 (b : Int)).toNat : Int) = _
  rw [BitVec.toNat_or, h1, h2, IntKind.wrap_i64]
  omega
theorem or_sum (k i b : Nat) (hb : b < 2 ^ i) (hk : 2 ^ i * k + b < 65536) : bits .or .i64 ((2 ^ i * k : Nat) : Int) (b : Int) = ((2 ^ i * k + b : Nat) : Int) := by
  rw [or_int _ _ (by omega) (by omega), Nat.two_pow_add_eq_or_of_lt hb]
set_option maxRecDepth 100000 in
set_option maxHeartbeats 1000000 in
theorem pack_ok (b : Br) (hb : b.okB = true) (w : World) :
    Calls Tryd.prog 55 #[.agg b.vals.toArray] w fun e w' => e = .returned (.tuple #[.string ⟨b.bytes.toArray⟩, .nilIface]) ∧ Below w.heap.size w w' := by
  obtain ⟨h1, h2, h3, h4, h5⟩ := Br.ok_iff.1 hb
  have HK := Lib.hid hb
  clear hb
  obtain ⟨p, x, ad⟩ := b
  simp only [] at h1 h2 h3 h4 h5
  obtain ⟨p, rfl⟩ := Int.eq_ofNat_of_zero_le h1
  obtain ⟨x, rfl⟩ := Int.eq_ofNat_of_zero_le h4
  obtain ⟨k, rfl⟩ : ∃ k, p = 2 ^ 12 * k := ⟨p / 4096, by omega⟩
  have M0 : ∀ W, Calls Tryd.prog 43 #[.int .i64 ((2 ^ 12 * k + x : Nat) : Int), .int .i64 2] W fun e w' => e = .returned (.string ⟨(beBytes (2 ^ 12 * k + x) 2).toArray⟩) ∧ Below W.heap.size W w' := fun W => must_ok _ 2 (by decide) (by decide) (by omega) W
  have hor := or_sum k 12 x (by omega) (by omega)
  have hR : Br.bytes ⟨((2 ^ 12 * k : Nat) : Int), (x : Int), ad⟩ = beBytes (2 ^ 12 * k + x) 2 ++ ad.list := by
    unfold Br.bytes
    simp only []
    rw [show (((2 ^ 12 * k : Nat) : Int) + (x : Int)).toNat = 2 ^ 12 * k + x by omega]
  rw [hR]
  have HB := Lib.hid (Box.new w (Br.vals ⟨((2 ^ 12 * k : Nat) : Int), (x : Int), ad⟩) 40)
  have hb0 : Below w.heap.size w (w.alloc (.cells (Br.vals ⟨((2 ^ 12 * k : Nat) : Int), (x : Int), ad⟩).toArray 40)) := (Below.refl _ _).alloc (Nat.le_refl _) _
  have hl0 : w.heap.size < (w.alloc (.cells (Br.vals ⟨((2 ^ 12 * k : Nat) : Int), (x : Int), ad⟩).toArray 40)).heap.size := by simp
  have HM0 := Lib.hid M0
  have L0 : (beBytes (2 ^ 12 * k + x) 2).length ≤ 2 := by rw [beBytes_len]; decide
  have L1 : ad.list.length ≤ 6 := Nat.le_of_eq (Ad.len _)
  have HK1 : Hid (∀ X : World, X.rangeAt w.heap.size 2 ad.vals → (convert 90 9 (.slice (some ⟨w.heap.size, 2, none⟩) 6 6)).run Tryd.prog X = .ok (.string ⟨ad.list.toArray⟩) X) := Lib.hid (fun X h => conv_ad ad h)
  clear M0 hR h1 h2 h3 h4 h5
  generalize beBytes (2 ^ 12 * k + x) 2 = B0 at *
  generalize ad.list = S at *
  generalize (2 ^ 12 * k : Nat) = p at *
  generalize (p + x : Nat) = q at *
  go_enter Tryd.func55, Tryd.ntmps55
  go_upto_region 1 with (fail)
  generalize World.alloc _ _ = W0 at *
  go_upto_region 3 with (first
    | (with_reducible refine wpList_load_rng (ty := 40) (Br.vals _) (by with_unfolding_all rfl) HB.out.range Tryd.underlying40 (by with_unfolding_all rfl) (by with_unfolding_all exact info40) ?_)
    | ((with_reducible refine (prioRight_any _ W0).mono ?_)
       rintro e w1 ⟨rfl, hb1⟩
       rw [HK.out]))
  have HB1 := Lib.hid (HB.out.below hb1 hl0)
  have hl1 := Nat.lt_of_lt_of_le hl0 hb1.size
  have c0 : w1.cell? ⟨w.heap.size, 0, none⟩ = some (.int .i64 (p : Int)) := HB1.out.cell 0
  have c1 : w1.cell? ⟨w.heap.size, 1, none⟩ = some (.int .i64 (x : Int)) := HB1.out.cell 1
  have hr : w1.rangeAt w.heap.size 2 ad.vals := fun i v hi => by
    have := HB1.out.range (2 + i) v (by
      show (_ :: _ :: ad.vals)[2 + i]? = some v
      rw [Nat.add_comm, List.getElem?_cons_succ, List.getElem?_cons_succ]; exact hi)
    simpa using this
  have k1 : ∀ x : Ext w1, (convert 90 9 (.slice (some ⟨w.heap.size, 2, none⟩) 6 6)).run Tryd.prog x.val = .ok (.string ⟨S.toArray⟩) x.val := fun x => HK1.out _ (rangeAt_below hr x.below hl1)
  clear hr
  refine wp_region_ext (by kernel_rfl) (by kernel_rfl) ?_
  repeat (go_big_quiet_step (first | (with_reducible exact Calls.ext _ (HM0.out _))))
  refine wpQuiet_nil ?_
  rintro w2 ⟨⟨_, hb2⟩, rfl⟩
  go_wp2_with fail
  go_ret2
  exact ⟨rfl, (hb0.trans (hb1.mono hb0.size)).trans (hb2.mono (Nat.le_trans hb0.size hb1.size))⟩
set_option maxRecDepth 100000 in
set_option maxHeartbeats 1000000 in
theorem packPort_ok (b : Pt) (hb : b.okB = true) (w : World) :
    Calls Tryd.prog 116 #[.agg b.vals.toArray] w fun e w' => e = .returned (.tuple #[.string ⟨b.bytes.toArray⟩, .nilIface]) ∧ Below w.heap.size w w' := by
  obtain ⟨h1, h2, h3, h4, h5⟩ := Pt.ok_iff.1 hb
  have HK := Lib.hid hb
  clear hb
  obtain ⟨p, x⟩ := b
  simp only [] at h1 h2 h3 h4 h5
  obtain ⟨p, rfl⟩ := Int.eq_ofNat_of_zero_le h1
  obtain ⟨x, rfl⟩ := Int.eq_ofNat_of_zero_le (show 0 ≤ x by omega)
  obtain ⟨k, rfl⟩ : ∃ k, p = 16 * k := ⟨p / 16, by omega⟩
  have hor := or_sum k 12 x (by omega) (by omega)
  have hR : Pt.bytes ⟨((16 * k : Nat) : Int), (x : Int)⟩ = beBytes (2 ^ 12 * k + x) 2 := by
    unfold Pt.bytes
    simp only []
    rw [show (((16 * k : Nat) : Int) * 256 + (x : Int)).toNat = 2 ^ 12 * k + x by omega]
  rw [hR]
  clear hR
  have HB0 := Lib.hid (Box.new w (Pt.vals ⟨((16 * k : Nat) : Int), (x : Int)⟩) 42)
  have hb0 : Below w.heap.size w (w.alloc (.cells (Pt.vals ⟨((16 * k : Nat) : Int), (x : Int)⟩).toArray 42)) := (Below.refl _ _).alloc (Nat.le_refl _) _
  have hl0 : w.heap.size < (w.alloc (.cells (Pt.vals ⟨((16 * k : Nat) : Int), (x : Int)⟩).toArray 42)).heap.size := by simp
  have M0 : ∀ W, Calls Tryd.prog 43 #[.int .i64 ((2 ^ 12 * k + x : Nat) : Int), .int .i64 2] W fun e w' => e = .returned (.string ⟨(beBytes (2 ^ 12 * k + x) 2).toArray⟩) ∧ Below W.heap.size W w' := fun W => must_ok _ 2 (by decide) (by decide) (by omega) W
  have HM0 := Lib.hid M0
  have hsh : wrap64 (((16 * k : Nat) : Int) * 256) = ((2 ^ 12 * k : Nat) : Int) := by
    rw [show ((16 * k : Nat) : Int) * 256 = ((2 ^ 12 * k : Nat) : Int) by omega]
    unfold wrap64; omega
  clear M0 h1 h2 h3 h4 h5
  generalize (2 ^ 12 * k : Nat) = q at *
  generalize (16 * k : Nat) = p at *
  generalize (q + x : Nat) = s at *
  go_enter Tryd.func116, Tryd.ntmps116
  go_upto_region 1 with (fail)
  generalize World.alloc _ _ = W0 at *
  go_upto_region 3 with (first
    | (with_reducible refine wpList_load_rng (ty := 42) (Pt.vals _) (by with_unfolding_all rfl) HB0.out.range Tryd.underlying42 (by with_unfolding_all rfl) (by with_unfolding_all exact info42) ?_)
    | ((with_reducible refine (prioPort_any _ W0).mono ?_)
       rintro e w1 ⟨rfl, hb1⟩
       rw [HK.out]))
  have HB1 := Lib.hid (HB0.out.below hb1 hl0)
  have c0 : w1.cell? ⟨w.heap.size, 0, none⟩ = some (.int .i64 (p : Int)) := HB1.out.cell 0
  have c1 : w1.cell? ⟨w.heap.size, 1, none⟩ = some (.int .i64 (x : Int)) := HB1.out.cell 1
  go_wp2_with (first
    | ((with_reducible refine (HM0.out _).mono ?_)
       rintro e w2 ⟨rfl, hb2⟩
       skip))
  go_ret2
  exact ⟨rfl, (hb0.trans (hb1.mono hb0.size)).trans (hb2.mono (Nat.le_trans hb0.size hb1.size))⟩
end Go.Proofs.YteibhcocldihbaaDoor
namespace Go.Proofs.YteibhcocldihbaaDoor
open Go.RowKit
set_option maxRecDepth 100000 in
set_option maxHeartbeats 1000000 in
theorem flags_any (c p l s g a : Bool) (r : Int) (w : World) :
    Calls Tryd.prog 117 #[.agg #[.bool c, .bool p, .int .i64 r, .bool l, .bool s, .bool g, .bool a]] w fun e w' =>
      e = .returned (.bool (decide (0 ≤ r) && decide (r ≤ 3))) ∧ Below w.heap.size w w' := by
  go_enter Tryd.func117, Tryd.ntmps117
  go_wp2_with fail
  all_goals
    go_ret
    refine ⟨?_, by go_grown⟩
  all_goals first
    | (rw [show (decide (0 ≤ r) && decide (r ≤ 3)) = false by simp; omega]; rfl)
    | (rw [show (decide (0 ≤ r) && decide (r ≤ 3)) = decide (r ≤ 3) by simp; omega]; rfl)
def fbits (c p l s g a : Bool) : List Bool := [c, p, false, false, l, s, g, a]
def facc (bs : List Bool) (r : Nat) : Nat → Nat
  | 0 => r * 4
  | k + 1 => if bs.getD k false = true then facc bs r k ||| 2 ^ k else facc bs r k
theorem facc_lt (bs : List Bool) (r : Nat) (hr : r < 4) : ∀ k, k ≤ 8 → facc bs r k < 256
  | 0, _ => by simp only [facc]; omega
  | k + 1, h => by
    have ih := facc_lt bs r hr k (by omega)
    simp only [facc]
    split
    · exact Nat.or_lt_two_pow (n := 8) ih (Nat.pow_lt_pow_right (by decide) (by omega))
    · exact ih
theorem or_nat (a b : Nat) (ha : a < 256) (hb : b < 256) : bits .or .i64 (a : Int) (b : Int) = ((a ||| b : Nat) : Int) := by
  have hx : a ||| b < 2 ^ 8 := Nat.or_lt_two_pow (n := 8) ha hb
  have h1 : (BitVec.ofInt 64 (a : Int)).toNat = a := by rw [BitVec.ofInt_natCast, BitVec.toNat_ofNat]; exact Nat.mod_eq_of_lt (by omega)
  have h2 : (BitVec.ofInt 64 (b : Int)).toNat = b := by rw [BitVec.ofInt_natCast, BitVec.toNat_ofNat]; exact Nat.mod_eq_of_lt (by omega)
  show IntKind.i64.wrap ((BitVec.ofInt 64 (a : Int) ||| BitVec.ofInt 64 (b : Int)).toNat : Int) = _
  rw [BitVec.toNat_or, h1, h2, IntKind.wrap_i64]
  omega
theorem flag_index (c p l s g a : Bool) (k : Nat) (hk : k < 8) (W : World) :
    (Instr.index 195 (.agg #[.bool c, .bool p, .bool false, .bool false, .bool l, .bool s, .bool g, .bool a]) (.int .i64 (k : Int))).run Tryd.prog W = .ok (.bool ((fbits c p l s g a).getD k false)) W := by
  rcases k with _ | _ | _ | _ | _ | _ | _ | _ | k
  all_goals first | (exfalso; omega) | kernel_rfl
theorem pow_wrap (k : Nat) (hk : k < 8) : wrap64 ((2 : Int) ^ k) = 2 ^ k := by
  rcases k with _ | _ | _ | _ | _ | _ | _ | _ | k
  all_goals first | (exfalso; omega) | kernel_rfl
set_option maxRecDepth 100000 in
set_option maxHeartbeats 1000000 in
theorem byte_any (c p l s g a : Bool) (r : Nat) (hr : r < 4) (w : World) :
    Calls Tryd.prog 58 #[.agg #[.bool c, .bool p, .int .i64 (r : Int), .bool l, .bool s, .bool g, .bool a]] w fun e w' =>
      e = .returned (.int .i64 (facc (fbits c p l s g a) r 8 : Nat)) ∧ Below w.heap.size w w' := by
  have hidx := flag_index c p l s g a
  have Hidx := Lib.hid hidx
  clear hidx
  have Hlt := Lib.hid (facc_lt (fbits c p l s g a) r hr)
  generalize hbs : fbits c p l s g a = bs at *
  go_enter Tryd.func58, Tryd.ntmps58
  go_wp2_with fail
  go_loop [3, 22] (fun n i => ∃ k : Nat, k ≤ 8 ∧ i = .int .i64 k ∧ n = .int .i64 (facc bs r k : Nat)) (fun _ i => 8 - (intOf i).toNat)
  case atStart => exact ⟨0, by omega, rfl, by simp [facc]⟩
  case round =>
    obtain ⟨k, hk, rfl, rfl⟩ := hrel
    by_cases hlt : k < 8
    · have hx := Hidx.out k hlt
      have ho := or_nat (facc bs r k) (2 ^ k) (Hlt.out k hk) (Nat.pow_lt_pow_right (n := 8) (by decide) (by omega))
      rw [Int.natCast_pow] at ho
      have hw64 : wrap64 ((2 : Int) ^ k) = 2 ^ k := pow_wrap k hlt
      have Hw := Lib.hid hw64
      clear hw64
      cases hb : bs.getD k false
      · rw [hb] at hx
        have hf : facc bs r (k + 1) = facc bs r k := by simp only [facc, hb]; simp
        have Hf := Lib.hid hf
        clear hf hb
        go_wp2_with fail
        go_round
        case rel => exact ⟨k + 1, by omega, by go_num, by rw [Hf.out]⟩
        case measure => simp [intOf]; omega
      · rw [hb] at hx
        have hf : facc bs r (k + 1) = facc bs r k ||| 2 ^ k := by simp only [facc, hb]; simp
        have Hf := Lib.hid hf
        clear hf hb
        go_wp2_with fail
        go_round
        case rel => exact ⟨k + 1, by omega, by go_num, by rw [Hf.out, Hw.out]; exact congrArg _ ho⟩
        case measure => simp [intOf]; omega
    · have : k = 8 := by omega
      subst this
      go_wp2_with fail
      go_ret
      exact ⟨rfl, by go_grown⟩
end Go.Proofs.YteibhcocldihbaaDoor
namespace Go.Proofs.YteibhcocldihbaaDoor
open Go.RowKit
/-! ### Flags -/
set_option maxRecDepth 100000 in
set_option maxHeartbeats 1000000 in
theorem flagsF_any (f : Fl) (w : World) :
    Calls Tryd.prog 117 #[.agg f.vals.toArray] w fun e w' => e = .returned (.bool f.okB) ∧ Below w.heap.size w w' := by
  obtain ⟨c, p, r, l, s, g, a⟩ := f
  exact flags_any c p l s g a r w
theorem facc_byte : ∀ (c p l s g a : Bool) (r : Fin 4), facc (fbits c p l s g a) r.val 8 = Fl.byte ⟨c, p, ((r.val : Nat) : Int), l, s, g, a⟩ := by decide +kernel
theorem byteF_any (f : Fl) (h : f.okB = true) (w : World) :
    Calls Tryd.prog 58 #[.agg f.vals.toArray] w fun e w' => e = .returned (.int .i64 (f.byte : Int)) ∧ Below w.heap.size w w' := by
  simp only [Fl.okB, Bool.and_eq_true, decide_eq_true_eq] at h
  obtain ⟨c, p, r, l, s, g, a⟩ := f
  simp only [] at h
  obtain ⟨r, rfl⟩ := Int.eq_ofNat_of_zero_le h.1
  have hr : r < 4 := by omega
  have := byte_any c p l s g a r hr w
  rw [facc_byte c p l s g a ⟨r, hr⟩] at this
  exact this
theorem of_bit (n k : Nat) (hn : n < 9223372036854775808) : bits .and .i64 ((n : Int) / 2 ^ k) 1 = ((n / 2 ^ k % 2 : Nat) : Int) := by
  have h1 : n / 2 ^ k < 9223372036854775808 := Nat.lt_of_le_of_lt (Nat.div_le_self _ _) hn
  have hx : n / 2 ^ k &&& 1 < 2 ^ 63 := Nat.and_lt_two_pow _ (by omega)
  have e1 : (BitVec.ofInt 64 ((n / 2 ^ k : Nat) : Int)).toNat = n / 2 ^ k := by rw [BitVec.ofInt_natCast, BitVec.toNat_ofNat]; exact Nat.mod_eq_of_lt (by omega)
  have e2 : bits .and .i64 ((n / 2 ^ k : Nat) : Int) 1 = ((n / 2 ^ k &&& 1 : Nat) : Int) := by
    show IntKind.i64.wrap ((BitVec.ofInt 64 ((n / 2 ^ k : Nat) : Int) &&& BitVec.ofInt 64 (1 : Int)).toNat : Int) = _
    rw [BitVec.toNat_and, e1, show (BitVec.ofInt 64 (1 : Int)).toNat = 1 by decide, IntKind.wrap_i64]
    omega
  rw [nat_mask1] at e2
  simpa using e2
set_option maxRecDepth 100000 in
set_option maxHeartbeats 1000000 in
theorem ofbit_any (n k B : Nat) (hn : n < 256) (hk : k < 8) (w : World) (hc : w.cell? ⟨B, 0, none⟩ = some (.int .i64 (n : Int))) :
    Calls Tryd.prog 123 #[.int .i64 (k : Int), .pointer (some ⟨B, 0, none⟩)] w fun e w' =>
      e = .returned (.bool (decide (n / 2 ^ k % 2 = 1))) ∧ w = w' := by
  have hb := of_bit n k (by omega)
  rcases Nat.mod_two_eq_zero_or_one (n / 2 ^ k) with h2 | h2
  all_goals
    rw [h2] at hb ⊢
    have H2 := Lib.hid h2
    clear h2
    go_enter Tryd.func123, Tryd.ntmps123
    go_wp2_with fail
    go_ret
    exact ⟨rfl, rfl⟩
set_option maxRecDepth 100000 in
set_option maxHeartbeats 1000000 in
theorem of_any (n : Nat) (hn : n < 256) (w : World) :
    Calls Tryd.prog 69 #[.int .i64 (n : Int)] w fun e w' => e = .returned (.agg (Fl.of n).vals.toArray) ∧ Below w.heap.size w w' := by
  have hff : ∀ (args : Array Value) (W : World), (callFunc 123 args).run Tryd.prog W = .ok (.enter 123 args) W := fun args W => by kernel_rfl
  have H1 := Lib.hid ((St.init w).alloc2 [.int .i64 (n : Int)] [.bool false, .bool false, .int .i64 0, .bool false, .bool false, .bool false, .bool false] 3 38)
  have q : ∀ k : Nat, k < 8 → Hid (∀ W : World, W.cell? ⟨w.heap.size, 0, none⟩ = some (.int .i64 (n : Int)) → Calls Tryd.prog 123 #[.int .i64 (k : Int), .pointer (some ⟨w.heap.size, 0, none⟩)] W fun e w' => e = .returned (.bool (decide (n / 2 ^ k % 2 = 1))) ∧ W = w') := fun k hk => Lib.hid (fun W h => ofbit_any n k w.heap.size hn hk W h)
  have q0 : Hid (∀ W : World, W.cell? ⟨w.heap.size, 0, none⟩ = some (.int .i64 (n : Int)) → Calls Tryd.prog 123 #[.int .i64 0, .pointer (some ⟨w.heap.size, 0, none⟩)] W fun e w' => e = .returned (.bool (decide (n / 2 ^ 0 % 2 = 1))) ∧ W = w') := q 0 (by decide)
  have q1 : Hid (∀ W : World, W.cell? ⟨w.heap.size, 0, none⟩ = some (.int .i64 (n : Int)) → Calls Tryd.prog 123 #[.int .i64 1, .pointer (some ⟨w.heap.size, 0, none⟩)] W fun e w' => e = .returned (.bool (decide (n / 2 ^ 1 % 2 = 1))) ∧ W = w') := q 1 (by decide)
  have q4 : Hid (∀ W : World, W.cell? ⟨w.heap.size, 0, none⟩ = some (.int .i64 (n : Int)) → Calls Tryd.prog 123 #[.int .i64 4, .pointer (some ⟨w.heap.size, 0, none⟩)] W fun e w' => e = .returned (.bool (decide (n / 2 ^ 4 % 2 = 1))) ∧ W = w') := q 4 (by decide)
  have q5 : Hid (∀ W : World, W.cell? ⟨w.heap.size, 0, none⟩ = some (.int .i64 (n : Int)) → Calls Tryd.prog 123 #[.int .i64 5, .pointer (some ⟨w.heap.size, 0, none⟩)] W fun e w' => e = .returned (.bool (decide (n / 2 ^ 5 % 2 = 1))) ∧ W = w') := q 5 (by decide)
  have q6 : Hid (∀ W : World, W.cell? ⟨w.heap.size, 0, none⟩ = some (.int .i64 (n : Int)) → Calls Tryd.prog 123 #[.int .i64 6, .pointer (some ⟨w.heap.size, 0, none⟩)] W fun e w' => e = .returned (.bool (decide (n / 2 ^ 6 % 2 = 1))) ∧ W = w') := q 6 (by decide)
  have q7 : Hid (∀ W : World, W.cell? ⟨w.heap.size, 0, none⟩ = some (.int .i64 (n : Int)) → Calls Tryd.prog 123 #[.int .i64 7, .pointer (some ⟨w.heap.size, 0, none⟩)] W fun e w' => e = .returned (.bool (decide (n / 2 ^ 7 % 2 = 1))) ∧ W = w') := q 7 (by decide)
  clear q
  have hm3 : bits .and .i64 ((n : Int) / 4) 3 = ((n / 4 % 4 : Nat) : Int) := by
    have e1 : (BitVec.ofInt 64 ((n / 4 : Nat) : Int)).toNat = n / 4 := by rw [BitVec.ofInt_natCast, BitVec.toNat_ofNat]; exact Nat.mod_eq_of_lt (by omega)
    have e2 : bits .and .i64 ((n / 4 : Nat) : Int) 3 = ((n / 4 &&& 3 : Nat) : Int) := by
      have hx : n / 4 &&& 3 < 2 ^ 2 := Nat.and_lt_two_pow _ (by omega)
      show IntKind.i64.wrap ((BitVec.ofInt 64 ((n / 4 : Nat) : Int) &&& BitVec.ofInt 64 (3 : Int)).toNat : Int) = _
      rw [BitVec.toNat_and, e1, show (BitVec.ofInt 64 (3 : Int)).toNat = 3 by decide, IntKind.wrap_i64]
      omega
    rw [show n / 4 &&& 3 = n / 4 % 4 from Nat.and_two_pow_sub_one_eq_mod (n / 4) 2] at e2
    simpa using e2
  go_enter Tryd.func69, Tryd.ntmps69
  go_upto_region 2 with (fail)
  generalize World.alloc _ _ = W0 at *
  have cN : W0.cell? ⟨w.heap.size, 0, none⟩ = some (.int .i64 (n : Int)) := (Blk.box (H1.out.at 1 rfl)).cell 0
  have lN : w.heap.size < W0.heap.size := (H1.out.at 1 rfl).lt
  have hn0 : (0 : Int) ≤ n := by omega
  refine wp_region_ext_tail 16 (by kernel_rfl) (by kernel_rfl) ?_
  simp only [List.take_succ_cons, List.take_zero, List.drop_succ_cons, List.drop_zero]
  repeat (go_big_quiet_step ((first
    | (with_reducible exact Calls.ext_same _ (q0.out _ (by rw [Ext.cell _ _ _ lN]; exact cN)))
    | (with_reducible exact Calls.ext_same _ (q1.out _ (by rw [Ext.cell _ _ _ lN]; exact cN)))
    | (with_reducible exact Calls.ext_same _ (q4.out _ (by rw [Ext.cell _ _ _ lN]; exact cN)))
    | (with_reducible exact Calls.ext_same _ (q5.out _ (by rw [Ext.cell _ _ _ lN]; exact cN)))
    | (with_reducible exact Calls.ext_same _ (q6.out _ (by rw [Ext.cell _ _ _ lN]; exact cN)))
    | (with_reducible exact Calls.ext_same _ (q7.out _ (by rw [Ext.cell _ _ _ lN]; exact cN))))))
  refine wpQuiet_nil ?_
  rintro w2 ⟨⟨_, hb2⟩, rfl⟩
  have H2 := Lib.hid (H1.out.ext hb2)
  clear hb2 H1 q0 q1 q4 q5 q6 q7 hm3 cN
  have h4 : ((n / 4 % 4 : Nat) : Int) = (n : Int) / 4 % 4 := by omega
  have hE : (Fl.of n).vals = [.bool (decide (n % 2 = 1)), .bool (decide (n / 2 % 2 = 1)), .int .i64 ((n : Int) / 4 % 4), .bool (decide (n / 16 % 2 = 1)), .bool (decide (n / 32 % 2 = 1)), .bool (decide (n / 64 % 2 = 1)), .bool (decide (n / 128 % 2 = 1))] := by
    rw [← h4]; rfl
  have HO := Lib.hid (Fl.one (Fl.of n))
  have HE := Lib.hid hE
  clear hE h4
  generalize hV : (Fl.of n).vals = V at *
  have HV := Lib.hid hV
  clear hV
  go_wp2_with (first
    | (with_reducible refine wpList_store_blk (ty := 38) (o := 0) _ [.bool (decide (n % 2 = 1)), .bool (decide (n / 2 % 2 = 1)), .int .i64 ((n : Int) / 4 % 4), .bool (decide (n / 16 % 2 = 1)), .bool (decide (n / 32 % 2 = 1)), .bool (decide (n / 64 % 2 = 1)), .bool (decide (n / 128 % 2 = 1))] (by with_unfolding_all rfl) (by with_unfolding_all rfl) (H2.out.at 0 rfl) (by with_unfolding_all exact Nat.le_refl _) (by with_unfolding_all exact info38) (by rw [← HE.out]; exact HO.out) (fun W3 hBW3 hoW3 => ?_)))
  have B3 : Blk W3 (w.heap.size + 1) 38 [.bool (decide (n % 2 = 1)), .bool (decide (n / 2 % 2 = 1)), .int .i64 ((n : Int) / 4 % 4), .bool (decide (n / 16 % 2 = 1)), .bool (decide (n / 32 % 2 = 1)), .bool (decide (n / 64 % 2 = 1)), .bool (decide (n / 128 % 2 = 1))] := hBW3
  rw [← HE.out] at B3
  have h3 := H2.out.sets (L' := V) B3 hoW3
  have hVl : V.length = 7 := by rw [HE.out]; rfl
  exact ret_cell (cs := V) Tryd.results69 (by rfl) (Blk.box h3.head).range Tryd.underlying38 rfl (by rw [hVl]; exact info38) rfl ⟨by rw [HV.out], h3.below⟩
end Go.Proofs.YteibhcocldihbaaDoor
namespace Go.Proofs.YteibhcocldihbaaDoor
open Go.RowKit
theorem wpList_buildA {P : Program} {ops : Array Oper} {rest : List Oper} {d : Tmp} {t : TypeId} {parts : Array (Nat × Operand)} {t' : TypeId} {pos : String} {after : Array Edge} {a : Act} {w : World} {Q : Exit → Act → World → Prop} (vs : List (Nat × Value)) (cells : List Value)
    (hv : (parts.map fun (i, x) => (i, a.eval x)).toList = vs) (hc : P.built t vs = some cells.toArray) (h : wpList P ops Q rest (a.put (some d) (.agg cells.toArray)) w) :
    wpList P ops Q (⟨some d, .build t parts, t', pos, after, none⟩ :: rest) a w := by
  refine wpList_build rfl t parts rfl (by rw [hv, hc]; rfl) ?_
  rw [hv, hc]; exact h
theorem ret_cell2 {P : Program} {fn : Func} {R : Ending → World → Prop} {a : Act} {w : World} {p q : Tmp} {ty : TypeId} (h : fn.results = #[.cell p ty, .tmp q]) {g : Nat} (hp : a.tmps.getD p undef = .pointer (some ⟨g, 0, none⟩)) {cs : List Value} {d : TypeDesc} {v : Value} (hq : a.tmps.getD q undef = v)
    (hr : w.rangeAt g 0 cs) (hu : P.underlying ty = some d) (hd : d.isRow = true) (hi : (P.info? ty).map (·.size) = some cs.length) (hdef : a.defers = []) (hR : R (.returned (.tuple #[.agg cs.toArray, v])) w) : bodyPost P fn R .ret a w := by
  refine ⟨hdef, .tuple #[.agg cs.toArray, v], ?_, hR⟩
  have hp' : a.tmps[p]?.getD undef = .pointer (some ⟨g, 0, none⟩) := by simpa using hp
  have hq' : a.tmps[q]?.getD undef = v := by simpa using hq
  simp [results, h, hp', hq', asAddr, run_loadVar_mid w g 0 ty cs d hr hu hd hi]
theorem lac_built (a b : Pty) : Tryd.prog.built 85 [(0, .agg a.vals.toArray), (1, .agg b.vals.toArray)] = some (Lac.vals ⟨a, b, 0⟩).toArray := by
  obtain ⟨a0, ⟨a1, a2, a3, a4, a5, a6⟩, a7, a8, a9, a10⟩ := a
  obtain ⟨b0, ⟨b1, b2, b3, b4, b5, b6⟩, b7, b8, b9, b10⟩ := b
  kernel_rfl
theorem side_e {B : Nat} {w0 w : World} {A : List It} {b g : Nat} {R : RS} (H : St B w0 w (rd b R g :: A)) (kind : Nat) (hk : kind = 1 ∨ kind = 2) :
    Calls Tryd.prog 106 #[.pointer (some ⟨b, 0, none⟩), .int .i64 (kind : Int)] w fun e w' => ∃ p R', readSideM R kind = (p, R') ∧ e = .returned (.agg p.vals.toArray) ∧ RdTo B w0 b R' A w' :=
  (readSide_st H kind hk).mono fun _ _ h => ⟨_, _, rfl, h.1, h.2⟩
theorem head_e {B : Nat} {w0 w : World} {A : List It} {b g : Nat} {R : RS} (H : St B w0 w (rd b R g :: A)) (want : List UInt8) (hw : want.length ≤ 100) :
    Calls Tryd.prog 48 #[.pointer (some ⟨b, 0, none⟩), .string ⟨want.toArray⟩] w fun e w' => ∃ R', headM R want = R' ∧ e = .returned (.tuple #[]) ∧ RdTo B w0 b R' A w' :=
  (head_st H want hw).mono fun _ _ h => ⟨_, rfl, h.1, h.2⟩
@[reducible] def zLac : List Value := [.int .i64 0, .int .u8 0, .int .u8 0, .int .u8 0, .int .u8 0, .int .u8 0, .int .u8 0, .int .i64 0, .int .i64 0, .int .i64 0, .int .i64 0, .int .i64 0, .int .u8 0, .int .u8 0, .int .u8 0, .int .u8 0, .int .u8 0, .int .u8 0, .int .i64 0, .int .i64 0, .int .i64 0, .int .i64 0, .int .i64 0]
theorem zLac_one : ∀ v ∈ zLac, v.oneCell' = true := by decide
theorem lac_zero : Tryd.prog.built 85 [] = some zLac.toArray := by kernel_rfl
/-- What Read hands back of its text; g: where the error is. -/
def lacGot (s : List UInt8) (g : Nat) : Value := if (readLacM s).2.1 = true then .tuple #[.agg (readLacM s).1.vals.toArray, .nilIface] else .tuple #[.agg zLac.toArray, errV (readLacM s).2.2 g]
set_option maxRecDepth 100000 in
set_option maxHeartbeats 2000000 in
theorem lacRead_any (s : List UInt8) (hs : s.length ≤ 4611686018427387904) (w : World) :
    Calls Tryd.prog 42 #[.string ⟨s.toArray⟩] w fun e w' => ∃ b g, e = .returned (lacGot s g) ∧ St w.heap.size w w' (rd b (readLacM s).2.2 g :: []) := by
  have H1 := Lib.hid ((St.init w).alloc zLac 85)
  go_enter Tryd.func42, Tryd.ntmps42
  go_upto_region 1 with (fail)
  unfold zLac at H1
  generalize World.alloc _ _ = w1 at *
  have H1 : Hid (St w.heap.size w w1 (bk w.heap.size 85 zLac :: [])) := H1
  go_wp2_with fail
  refine (new_st H1.out s 0 (by simpa using hs)).mono ?_
  rintro e w2 ⟨rfl, h2⟩
  have H2 := Lib.hid h2
  clear h2 H1
  generalize hb : w1.heap.size = b at *
  clear hb
  go_wp2_with fail
  refine (head_e H2.out [1, 1] (by decide)).mono ?_
  rintro e w3 ⟨R3, e3, rfl, g3, h3⟩
  have E3 := Lib.hid e3
  have H3 := Lib.hid h3
  clear e3 h3 H2
  go_wp2_with fail
  refine (side_e H3.out 1 (.inl rfl)).mono ?_
  rintro e w4 ⟨x, R4, e4, rfl, g4, h4⟩
  have E4 := Lib.hid e4
  have H4 := Lib.hid h4
  clear e4 h4 H3
  go_wp2_with fail
  refine (side_e H4.out 2 (.inr rfl)).mono ?_
  rintro e w5 ⟨y, R5, e5, rfl, g5, h5⟩
  have E5 := Lib.hid e5
  have H5 := Lib.hid h5
  clear e5 h5 H4
  go_upto_region 4 with (first
    | (with_reducible refine wpList_buildA (t := 85) [(0, .agg x.vals.toArray), (1, .agg y.vals.toArray)] (Lac.vals ⟨x, y, 0⟩) (by with_unfolding_all rfl) (lac_built x y) ?_)
    | (with_reducible refine wpList_store_blk (ty := 85) (o := 0) _ (Lac.vals ⟨x, y, 0⟩) (by with_unfolding_all rfl) (by with_unfolding_all rfl) (Blk.new w5 zLac 85) (by with_unfolding_all exact Nat.le_refl _) (by with_unfolding_all exact info85) (Lac.one _) (fun W6 hBW6 hoW6 => ?_)))
  have H6 : Hid (St w.heap.size w W6 (rd b R5 g5 :: bk w5.heap.size 85 (Lac.vals ⟨x, y, 0⟩) :: bk w.heap.size 85 zLac :: [])) := Lib.hid (((H5.out.alloc zLac 85).sets (L' := Lac.vals ⟨x, y, 0⟩) hBW6 hoW6).swap)
  clear hBW6 hoW6 H5
  generalize hP : w5.heap.size = P at *
  clear hP
  go_wp2_with fail
  refine (head_e H6.out [3, 16] (by decide)).mono ?_
  rintro e w7 ⟨R7, e7, rfl, g7, h7⟩
  have E7 := Lib.hid e7
  have H7 := Lib.hid h7
  clear e7 h7 H6
  go_wp2_with fail
  refine (num_e H7.out 2 (by decide) (by decide)).mono ?_
  rintro e w8 ⟨n8, R8, e8, l8, rfl, g8, h8⟩
  have E8 := Lib.hid e8
  have H8 := Lib.hid h8
  clear e8 h8 H7
  have c8 : w8.cell? ⟨P, 22, none⟩ = some (.int .i64 0) := (H8.out.pull 1 rfl).cell 22
  have z8 := (H8.out.pull 1 rfl).frozen 22
  go_upto_region 6 with (fail)
  have H9 : Hid (St w.heap.size w _ (rd b R8 g8 :: bk P 85 (Lac.vals ⟨x, y, n8⟩) :: bk w.heap.size 85 zLac :: [])) := Lib.hid ((H8.out.pull 1 rfl).set 22 (.int .i64 (n8 : Int)) (by rw [Lac.len]; decide)).swap
  clear c8 z8 H8
  generalize World.setCell _ _ _ = w9 at *
  go_wp2_with fail
  refine (bytes_e H9.out 12 (by decide)).mono ?_
  rintro e w10 ⟨n10, R10, e10, l10, rfl, g10, h10⟩
  have E10 := Lib.hid e10
  have H10 := Lib.hid h10
  clear e10 h10 H9
  go_wp2_with fail
  refine (head_e H10.out [0, 0] (by decide)).mono ?_
  rintro e w11 ⟨R11, e11, rfl, g11, h11⟩
  have E11 := Lib.hid e11
  have H11 := Lib.hid h11
  clear e11 h11 H10
  go_wp2_with fail
  refine (bytes_e H11.out 50 (by decide)).mono ?_
  rintro e w12 ⟨n12, R12, e12, l12, rfl, g12, h12⟩
  have E12 := Lib.hid e12
  have H12 := Lib.hid h12
  clear e12 h12 H11
  go_wp2_with fail
  refine (zeros_e H12.out).mono ?_
  rintro e w13 ⟨ok, R13, e13, rfl, g13, h13⟩
  have hE : readLacM s = (⟨x, y, n8⟩, ok, R13) := by
    unfold readLacM
    simp only [E3.out, E4.out, E5.out, E7.out, E8.out, E10.out, E11.out, E12.out, e13]
  have HE := Lib.hid hE
  have H13 := Lib.hid h13
  clear e13 h13 hE H12 E3 E4 E5 E7 E8 E10 E11 E12
  have B13 := Lib.hid (H13.out.at 2 rfl)
  have R13' := Lib.hid (Blk.box (H13.out.at 1 rfl)).range
  cases ok
  · go_wp2_with (first
      | (with_reducible refine wpList_buildA (t := 85) [] zLac (by with_unfolding_all rfl) lac_zero ?_)
      | ((with_reducible refine (err_st H13.out).mono ?_)
         rintro e w14 ⟨rfl, rfl⟩)
      | (with_reducible refine wpList_store_blk (ty := 85) (o := 0) _ zLac (by with_unfolding_all rfl) (by with_unfolding_all rfl) B13.out (by with_unfolding_all exact Nat.le_refl _) (by with_unfolding_all exact info85) zLac_one (fun W15 hBW15 hoW15 => ?_)))
    have h15 := (H13.out.pull 2 rfl).sets (L' := zLac) hBW15 hoW15
    refine ret_cell2 (cs := zLac) Tryd.results42 (by rfl) (by rfl) (Blk.box h15.head).range Tryd.underlying85 rfl info85 rfl ⟨b, g13, ?_, ?_⟩
    · unfold lacGot; rw [HE.out]; rfl
    · rw [HE.out]; exact h15.tail.swap.tail
  · go_wp2_with (first
      | (with_reducible refine wpList_load_rng (ty := 85) (Lac.vals ⟨x, y, n8⟩) (by with_unfolding_all rfl) R13'.out Tryd.underlying85 (by with_unfolding_all rfl) (by with_unfolding_all exact info85) ?_)
      | (with_reducible refine wpList_store_blk (ty := 85) (o := 0) _ (Lac.vals ⟨x, y, n8⟩) (by with_unfolding_all rfl) (by with_unfolding_all rfl) B13.out (by with_unfolding_all exact Nat.le_refl _) (by with_unfolding_all exact info85) (Lac.one _) (fun W15 hBW15 hoW15 => ?_)))
    have h15 := (H13.out.pull 2 rfl).sets (L' := Lac.vals ⟨x, y, n8⟩) hBW15 hoW15
    refine ret_cell2 (cs := Lac.vals ⟨x, y, n8⟩) Tryd.results42 (by rfl) (by rfl) (Blk.box h15.head).range Tryd.underlying85 rfl info85 rfl ⟨b, g13, ?_, ?_⟩
    · unfold lacGot; rw [HE.out]; rfl
    · rw [HE.out]; exact h15.tail.swap.tail
end Go.Proofs.YteibhcocldihbaaDoor
namespace Go.Proofs.YteibhcocldihbaaDoor
open Go.RowKit
theorem and_mod (n k : Nat) (hn : n < 65536) (hk : k ≤ 16) : bits .and .i64 (n : Int) ((2 ^ k - 1 : Nat) : Int) = ((n % 2 ^ k : Nat) : Int) := by
  have hlt : 2 ^ k - 1 < 65536 := Nat.lt_of_lt_of_le (Nat.sub_lt (Nat.two_pow_pos k) (by decide)) (Nat.pow_le_pow_right (n := 2) (by decide) hk)
  have h1 : (BitVec.ofInt 64 (n : Int)).toNat = n := by rw [BitVec.ofInt_natCast, BitVec.toNat_ofNat]; exact Nat.mod_eq_of_lt (by omega)
  have h2 : (BitVec.ofInt 64 ((2 ^ k - 1 : Nat) : Int)).toNat = 2 ^ k - 1 := by rw [BitVec.ofInt_natCast, BitVec.toNat_ofNat]; exact Nat.mod_eq_of_lt (by omega)
  show IntKind.i64.wrap ((BitVec.ofInt 64 (n : Int) &&& BitVec.ofInt 64 ((2 ^ k - 1 : Nat) : Int)).toNat : Int) = _
  rw [BitVec.toNat_and, h1, h2, IntKind.wrap_i64, Nat.and_two_pow_sub_one_eq_mod]
  have := Nat.mod_le n (2 ^ k)
  omega
theorem andNot_mod (n k : Nat) (hn : n < 65536) (hk : k ≤ 16) : bits .andNot .i64 (n : Int) ((2 ^ k - 1 : Nat) : Int) = ((n / 2 ^ k * 2 ^ k : Nat) : Int) := by
  have hlt : 2 ^ k - 1 < 65536 := Nat.lt_of_lt_of_le (Nat.sub_lt (Nat.two_pow_pos k) (by decide)) (Nat.pow_le_pow_right (n := 2) (by decide) hk)
  have h1 : (BitVec.ofInt 64 (n : Int)) = BitVec.ofNat 64 n := BitVec.ofInt_natCast ..
  have h2 : (BitVec.ofInt 64 ((2 ^ k - 1 : Nat) : Int)) = BitVec.ofNat 64 (2 ^ k - 1) := BitVec.ofInt_natCast ..
  have e : (BitVec.ofNat 64 n &&& ~~~ BitVec.ofNat 64 (2 ^ k - 1)).toNat = n / 2 ^ k * 2 ^ k := by
    apply Nat.eq_of_testBit_eq
    intro i
    rw [BitVec.testBit_toNat, BitVec.getLsbD_and, BitVec.getLsbD_not, BitVec.getLsbD_ofNat, BitVec.getLsbD_ofNat, Nat.testBit_two_pow_sub_one, Nat.mul_comm, Nat.testBit_two_pow_mul, Nat.testBit_div_two_pow]
    by_cases hi : i < 64
    · by_cases hki : i < k
      · simp [hki]; omega
      · have : k ≤ i := by omega
        simp [hi, hki, this]
    · have hb : n.testBit i = false := Nat.testBit_lt_two_pow (Nat.lt_of_lt_of_le hn (Nat.pow_le_pow_right (n := 2) (by decide) (show 16 ≤ i by omega)))
      by_cases hki : k ≤ i
      · simp [hi, hb, hki]
      · omega
  show IntKind.i64.wrap ((BitVec.ofInt 64 (n : Int) &&& ~~~ BitVec.ofInt 64 ((2 ^ k - 1 : Nat) : Int)).toNat : Int) = _
  rw [h1, h2, e, IntKind.wrap_i64]
  have := Nat.div_mul_le_self n (2 ^ k)
  omega
theorem br_built (p x : Nat) : Tryd.prog.built 40 [(0, .int .i64 (p : Int)), (1, .int .i64 (x : Int))] = some (Br.vals ⟨(p : Int), (x : Int), Ad.of []⟩).toArray := by kernel_rfl
theorem pt_built (p x : Nat) : Tryd.prog.built 42 [(0, .int .i64 (p : Int)), (1, .int .i64 (x : Int))] = some (Pt.vals ⟨(p : Int), (x : Int)⟩).toArray := by kernel_rfl
@[reducible] def zBr : List Value := [.int .i64 0, .int .i64 0, .int .u8 0, .int .u8 0, .int .u8 0, .int .u8 0, .int .u8 0, .int .u8 0]
@[reducible] def zPt : List Value := [.int .i64 0, .int .i64 0]
section
variable {B : Nat} {w0 w : World} {A : List It} {b g : Nat} {R : RS}
set_option maxRecDepth 100000 in
set_option maxHeartbeats 2000000 in
theorem readBr_st (H : St B w0 w (rd b R g :: A)) :
    Calls Tryd.prog 68 #[.pointer (some ⟨b, 0, none⟩)] w fun e w' => e = .returned (.agg (readBrM R).1.vals.toArray) ∧ RdTo B w0 b (readBrM R).2 A w' := by
  have H1 := Lib.hid (H.alloc zBr 40).swap
  clear H
  go_enter Tryd.func68, Tryd.ntmps68
  go_upto_region 1 with (fail)
  unfold zBr at H1
  generalize World.alloc _ _ = w1 at *
  have H1 : Hid (St B w0 w1 (rd b R g :: bk w.heap.size 40 Br.zero.vals :: A)) := H1
  go_wp2_with fail
  refine (num_e H1.out 2 (by decide) (by decide)).mono ?_
  rintro e w2 ⟨n2, R2, e2, l2, rfl, g2, h2⟩
  have E2 := Lib.hid e2
  have H2 := Lib.hid h2
  clear e2 h2 H1
  have hA : bits .andNot .i64 (n2 : Int) 4095 = ((n2 / 4096 * 4096 : Nat) : Int) := andNot_mod n2 12 (by omega) (by decide)
  have hB : bits .and .i64 (n2 : Int) 4095 = ((n2 % 4096 : Nat) : Int) := and_mod n2 12 (by omega) (by decide)
  generalize hp : n2 / 4096 * 4096 = p at *
  generalize hx : n2 % 4096 = x at *
  have Hp := Lib.hid hp
  have Hx := Lib.hid hx
  clear hp hx
  have PB := Lib.hid (br_built p x)
  go_upto_region 3 with (first
    | (with_reducible refine wpList_buildA (t := 40) [(0, .int .i64 (p : Int)), (1, .int .i64 (x : Int))] (Br.vals ⟨(p : Int), (x : Int), Ad.of []⟩) (by with_unfolding_all rfl) PB.out ?_)
    | (with_reducible refine wpList_store_blk (ty := 40) (o := 0) _ (Br.vals ⟨(p : Int), (x : Int), Ad.of []⟩) (by with_unfolding_all rfl) (by with_unfolding_all rfl) (Blk.new w2 zBr 40) (by with_unfolding_all exact Nat.le_refl _) (by with_unfolding_all exact info40) (Br.one _) (fun W3 hBW3 hoW3 => ?_)))
  have H3 : Hid (St B w0 W3 (rd b R2 g2 :: bk w2.heap.size 40 (Br.vals ⟨(p : Int), (x : Int), Ad.of []⟩) :: bk w.heap.size 40 Br.zero.vals :: A)) := Lib.hid ((H2.out.alloc zBr 40).sets (L' := Br.vals ⟨(p : Int), (x : Int), Ad.of []⟩) hBW3 hoW3).swap
  clear hBW3 hoW3 H2
  generalize w2.heap.size = P at *
  refine wp_region_last (fun _ => True) 4 (by kernel_rfl) trivial (fun hHeld => ?_)
  refine wpAnyG_take 0 (oi := ?o18) ?v18 ?hi18 (by kernel_rfl) (by kernel_rfl) (by decide) (by kernel_rfl) (by kernel_rfl) ?hq18 ?hg18 ?hy18 (by assumption) ?hk18
  case hi18 => (simp only [List.getElem?_toArray, List.getElem?_cons_succ, List.getElem?_cons_zero]; rfl)
  case hq18 => exact fun _ _ _ h => h
  case hg18 => rfl
  case hy18 => (intro X hX; go_simp; try with_reducible rfl)
  try simp only [Act.put, List.setIfInBounds_toArray, List.set_cons_zero, List.set_cons_succ]
  refine wpAnyG_take 1 (oi := ?o19) ?v19 ?hi19 (by kernel_rfl) (by kernel_rfl) (by decide) (by kernel_rfl) (by kernel_rfl) ?hq19 ?hg19 ?hy19 (by assumption) ?hk19
  case hi19 => (simp only [List.getElem?_toArray, List.getElem?_cons_succ, List.getElem?_cons_zero]; rfl)
  case hq19 => exact fun _ _ _ h => h
  case hg19 => rfl
  case hy19 => (intro X hX; go_simp; try with_reducible rfl)
  try simp only [Act.put, List.setIfInBounds_toArray, List.set_cons_zero, List.set_cons_succ]
  refine wpAnyG_take 2 (oi := ?o20) ?v20 ?hi20 (by kernel_rfl) (by kernel_rfl) (by decide) (by kernel_rfl) (by kernel_rfl) ?hq20 ?hg20 ?hy20 (by assumption) ?hk20
  case hi20 => (simp only [List.getElem?_toArray, List.getElem?_cons_succ, List.getElem?_cons_zero]; rfl)
  case hq20 => exact fun _ _ _ h => h
  case hg20 => rfl
  case hy20 => (intro X hX; go_simp; try with_reducible rfl)
  try simp only [Act.put, List.setIfInBounds_toArray, List.set_cons_zero, List.set_cons_succ]
  refine wpAnyG_one 3 (o := ?o21) (by kernel_rfl) ?hi21 ?hg21 ?hk21
  case hi21 => (simp only [List.getElem?_toArray, List.getElem?_cons_succ, List.getElem?_cons_zero]; rfl)
  case hg21 => rfl
  intro K hK
  go_simp
  refine (bytes_e H3.out.drew 6 (by decide)).mono ?_
  rintro e w7 ⟨n7, R7, e7, l7, rfl, g7, h7⟩
  have E7 := Lib.hid e7
  have H7 := Lib.hid h7
  refine hK.out _ _ (fun _ => trivial) (fun _ => ?_)
  clear e7 h7 H3 hK K
  try simp only [Act.put, List.setIfInBounds_toArray, List.set_cons_zero, List.set_cons_succ]
  refine wpAnyG_one 4 (o := ?o22) (by kernel_rfl) ?hi22 ?hg22 ?hk22
  case hi22 => (simp only [List.getElem?_toArray, List.getElem?_cons_succ, List.getElem?_cons_zero]; rfl)
  case hg22 => rfl
  intro K hK
  have h7' : St B w0 w7 (bk P 40 ([.int .i64 (p : Int), .int .i64 (x : Int)] ++ (zero6 ++ [])) :: rd b R7 g7 :: bk w.heap.size 40 Br.zero.vals :: A) := H7.out.pull 1 rfl
  refine Lib.wp_copy_run _ (.tmp 13) (.tmp 15) 90 9 rfl _ _ rfl rfl (copyAd_run [.int .i64 (p : Int), .int .i64 (x : Int)] [] 2 6 n7 h7' rfl l7 _) ?_
  refine hK.out _ _ (fun h => absurd rfl h) (fun _ => ?_)
  refine wpAnyG_done (by kernel_rfl) ?_ _
  have H8 : Hid (St B w0 _ (rd b R7 g7 :: bk P 40 (Br.vals ⟨(p : Int), (x : Int), Ad.of n7⟩) :: bk w.heap.size 40 Br.zero.vals :: A)) := Lib.hid (St.copyAd [.int .i64 (p : Int), .int .i64 (x : Int)] [] 2 n7 h7' rfl l7).swap
  clear h7' hK K H7
  generalize World.setRow _ _ _ = w8 at *
  have R8' := Lib.hid (Blk.box (H8.out.at 1 rfl)).range
  have B8' := Lib.hid (H8.out.at 2 rfl)
  go_wp2_with (first
    | (with_reducible refine wpList_load_rng (ty := 40) (Br.vals ⟨(p : Int), (x : Int), Ad.of n7⟩) (by with_unfolding_all rfl) R8'.out Tryd.underlying40 (by with_unfolding_all rfl) (by with_unfolding_all exact info40) ?_)
    | (with_reducible refine wpList_store_blk (ty := 40) (o := 0) _ (Br.vals ⟨(p : Int), (x : Int), Ad.of n7⟩) (by with_unfolding_all rfl) (by with_unfolding_all rfl) B8'.out (by with_unfolding_all exact Nat.le_refl _) (by with_unfolding_all exact info40) (Br.one _) (fun W9 hBW9 hoW9 => ?_)))
  have hE : readBrM R = (⟨(p : Int), (x : Int), Ad.of n7⟩, R7) := by
    unfold readBrM
    simp only [E2.out, E7.out, Hp.out, Hx.out]
  rw [hE]
  have h9 := (H8.out.pull 2 rfl).sets (L' := Br.vals ⟨(p : Int), (x : Int), Ad.of n7⟩) hBW9 hoW9
  refine ret_cell (cs := Br.vals ⟨(p : Int), (x : Int), Ad.of n7⟩) Tryd.results68 (by rfl) (Blk.box h9.head).range Tryd.underlying40 rfl info40 rfl ⟨rfl, g7, (h9.tail.swap).tail⟩
set_option maxRecDepth 100000 in
set_option maxHeartbeats 2000000 in
theorem readPt_st (H : St B w0 w (rd b R g :: A)) :
    Calls Tryd.prog 122 #[.pointer (some ⟨b, 0, none⟩)] w fun e w' => e = .returned (.agg (readPtM R).1.vals.toArray) ∧ RdTo B w0 b (readPtM R).2 A w' := by
  have H1 := Lib.hid (H.alloc zPt 42).swap
  clear H
  go_enter Tryd.func122, Tryd.ntmps122
  go_upto_region 1 with (fail)
  unfold zPt at H1
  generalize World.alloc _ _ = w1 at *
  have H1 : Hid (St B w0 w1 (rd b R g :: bk w.heap.size 42 Pt.zero.vals :: A)) := H1
  go_wp2_with fail
  refine (at_st H1.out).mono ?_
  rintro e w2 ⟨rfl, h2⟩
  have H2 := Lib.hid h2
  clear h2 H1
  go_wp2_with fail
  refine (num_e H2.out 2 (by decide) (by decide)).mono ?_
  rintro e w3 ⟨n3, R3, e3, l3, rfl, g3, h3⟩
  have E3 := Lib.hid e3
  have H3 := Lib.hid h3
  clear e3 h3 H2
  have hA : bits .andNot .i64 ((n3 : Int) / 256) 15 = ((n3 / 4096 * 16 : Nat) : Int) := by
    have := andNot_mod (n3 / 256) 4 (by omega) (by decide)
    rw [show n3 / 256 / 2 ^ 4 * 2 ^ 4 = n3 / 4096 * 16 by omega] at this
    simpa using this
  have hB : bits .and .i64 (n3 : Int) 4095 = ((n3 % 4096 : Nat) : Int) := and_mod n3 12 (by omega) (by decide)
  generalize hp : n3 / 4096 * 16 = p at *
  generalize hx : n3 % 4096 = x at *
  have Hp := Lib.hid hp
  have Hx := Lib.hid hx
  clear hp hx
  have PB := Lib.hid (pt_built p x)
  go_upto_region 4 with (first
    | (with_reducible refine wpList_buildA (t := 42) [(0, .int .i64 (p : Int)), (1, .int .i64 (x : Int))] (Pt.vals ⟨(p : Int), (x : Int)⟩) (by with_unfolding_all rfl) PB.out ?_)
    | (with_reducible refine wpList_store_blk (ty := 42) (o := 0) _ (Pt.vals ⟨(p : Int), (x : Int)⟩) (by with_unfolding_all rfl) (by with_unfolding_all rfl) (Blk.new w3 zPt 42) (by with_unfolding_all exact Nat.le_refl _) (by with_unfolding_all exact info42) (Pt.one _) (fun W4 hBW4 hoW4 => ?_)))
  have H4 : Hid (St B w0 W4 (rd b R3 g3 :: bk w3.heap.size 42 (Pt.vals ⟨(p : Int), (x : Int)⟩) :: bk w.heap.size 42 Pt.zero.vals :: A)) := Lib.hid ((H3.out.alloc zPt 42).sets (L' := Pt.vals ⟨(p : Int), (x : Int)⟩) hBW4 hoW4).swap
  clear hBW4 hoW4 H3 hA hB
  generalize w3.heap.size = P at *
  have c1 : W4.cell? ⟨P, 1, none⟩ = some (.int .i64 (x : Int)) := (H4.out.pull 1 rfl).cell 1
  obtain ⟨cond, hcd⟩ : ∃ c, decide (R3.err = none ∧ x = 0) = c := ⟨_, rfl⟩
  have Hcd := Lib.hid hcd
  clear hcd
  go_cut [23] (fun c wx => c = .bool cond ∧ wx = W4)
  case first =>
    cases he : R3.err with
    | some y =>
      obtain rfl : cond = false := by rw [← Hcd.out, he]; simp
      have He := Lib.hid (errV_some he g3)
      clear he
      go_wp2_with (first
        | ((with_reducible refine (err_st H4.out).mono ?_)
           rintro e w6 ⟨rfl, rfl⟩
           rw [He.out]))
      go_meet
      exact ⟨rfl, rfl⟩
    | none =>
      have He := Lib.hid (errV_none he g3)
      by_cases h0 : x = 0
      · obtain rfl : cond = true := by rw [← Hcd.out, he]; simp [h0]
        have hb0 : ((x : Int) == 0) = true := by rw [h0]; rfl
        clear he h0
        go_wp2_with (first
          | ((with_reducible refine (err_st H4.out).mono ?_)
             rintro e w6 ⟨rfl, rfl⟩
             rw [He.out]))
        go_meet
        exact ⟨rfl, rfl⟩
      · obtain rfl : cond = false := by rw [← Hcd.out, he]; simp [h0]
        have hb0 : ((x : Int) == 0) = false := by rw [beq_eq_false_iff_ne]; omega
        clear he h0
        go_wp2_with (first
          | ((with_reducible refine (err_st H4.out).mono ?_)
             rintro e w6 ⟨rfl, rfl⟩
             rw [He.out]))
        go_meet
        exact ⟨rfl, rfl⟩
  case rest =>
  obtain ⟨rfl, rfl⟩ := hcut
  go_upto_if 23 with (fail)
  go_cut [] (fun wx => RdTo B w0 b (if cond = true then failM R3 2 (R.place : Int) else R3) (bk P 42 (Pt.vals ⟨(p : Int), (x : Int)⟩) :: bk w.heap.size 42 Pt.zero.vals :: A) wx)
  case first =>
    cases cond
    · go_wp2_with fail
      go_meet
      exact ⟨g3, H4.out⟩
    · go_wp2_with (first
        | ((with_reducible refine (fail_st H4.out 2 _).mono ?_)
           rintro e w6 ⟨rfl, h6⟩
           have H6 := Lib.hid h6
           clear h6))
      go_meet
      exact H6.out
  case rest =>
  have hE : readPtM R = (⟨(p : Int), (x : Int)⟩, if cond = true then failM R3 2 (R.place : Int) else R3) := by
    unfold readPtM
    simp only [E3.out, Hp.out, Hx.out, ← Hcd.out, decide_eq_true_eq]
  generalize (if cond = true then failM R3 2 (R.place : Int) else R3) = R5 at *
  have HE := Lib.hid hE
  obtain ⟨g5, h5⟩ := hcut
  have H5 := Lib.hid h5
  clear h5 hE H4 c1
  generalize wc = w5 at *
  have R5' := Lib.hid (Blk.box (H5.out.at 1 rfl)).range
  have B5' := Lib.hid (H5.out.at 2 rfl)
  go_wp2_with (first
    | (with_reducible refine wpList_load_rng (ty := 42) (Pt.vals ⟨(p : Int), (x : Int)⟩) (by with_unfolding_all rfl) R5'.out Tryd.underlying42 (by with_unfolding_all rfl) (by with_unfolding_all exact info42) ?_)
    | (with_reducible refine wpList_store_blk (ty := 42) (o := 0) _ (Pt.vals ⟨(p : Int), (x : Int)⟩) (by with_unfolding_all rfl) (by with_unfolding_all rfl) B5'.out (by with_unfolding_all exact Nat.le_refl _) (by with_unfolding_all exact info42) (Pt.one _) (fun W9 hBW9 hoW9 => ?_)))
  rw [HE.out]
  have h9 := (H5.out.pull 2 rfl).sets (L' := Pt.vals ⟨(p : Int), (x : Int)⟩) hBW9 hoW9
  refine ret_cell (cs := Pt.vals ⟨(p : Int), (x : Int)⟩) Tryd.results122 (by rfl) (Blk.box h9.head).range Tryd.underlying42 rfl info42 rfl ⟨rfl, g5, (h9.tail.swap).tail⟩
end
end Go.Proofs.YteibhcocldihbaaDoor
namespace Go.Proofs.YteibhcocldihbaaDoor
open Go.RowKit
def Bp.vals (b : Bp) : List Value := .int .i64 b.kind :: (b.fl.vals ++ (b.root.vals ++ (.int .i64 b.cost :: (b.sender.vals ++ (b.port.vals ++ [.int .i64 b.age, .int .i64 b.max, .int .i64 b.hello, .int .i64 b.wait])))))
theorem Bp.len (b : Bp) : b.vals.length = 31 := rfl
theorem Bp.one (b : Bp) : ∀ v ∈ b.vals, v.oneCell' = true := fun v hv => by
  simp only [Bp.vals, List.mem_cons, List.mem_append, List.not_mem_nil, or_false] at hv
  rcases hv with rfl | hv | hv | rfl | hv | hv | rfl | rfl | rfl | rfl
  · rfl
  · exact Fl.one _ v hv
  · exact Br.one _ v hv
  · rfl
  · exact Br.one _ v hv
  · exact Pt.one _ v hv
  · rfl
  · rfl
  · rfl
  · rfl
set_option maxRecDepth 100000 in
set_option maxHeartbeats 1000000 in
theorem fl_eqIn (x y : Fl) (d : Nat) (W : World) : (Op.equalIn (d + 1 + 1) 38 (.agg x.vals.toArray) (.agg y.vals.toArray)).run Tryd.prog W = .ok (decide (x = y)) W := by
  have u3 := Tryd.underlying3
  have a3 := Tryd.isAgg3
  have z3 := Tryd.sizeOf3
  have u4 := Tryd.underlying4
  have a4 := Tryd.isAgg4
  have z4 := Tryd.sizeOf4
  have hS : Tryd.prog.underlying 38 = some (.struct (Tryd.prog.fieldsOf 38)) := by kernel_rfl
  have hp : Tryd.prog.stoodInHeld 38 = false := by kernel_rfl
  obtain ⟨c, p, r, l, s, g, a⟩ := x
  obtain ⟨c', p', r', l', s', g', a'⟩ := y
  simp only [Fl.vals]
  rw [run_equalIn_agg W (d + 1) 38 _ _ hS hp]
  simp only [Program.fieldsOf, Tryd.underlying38]
  go_simp
  repeat' split
  all_goals simp_all
set_option maxRecDepth 100000 in
set_option maxHeartbeats 1000000 in
theorem pt_eqIn (x y : Pt) (d : Nat) (W : World) : (Op.equalIn (d + 1 + 1) 42 (.agg x.vals.toArray) (.agg y.vals.toArray)).run Tryd.prog W = .ok (decide (x = y)) W := by
  have u3 := Tryd.underlying3
  have a3 := Tryd.isAgg3
  have z3 := Tryd.sizeOf3
  have hS : Tryd.prog.underlying 42 = some (.struct (Tryd.prog.fieldsOf 42)) := by kernel_rfl
  have hp : Tryd.prog.stoodInHeld 42 = false := by kernel_rfl
  obtain ⟨c, p⟩ := x
  obtain ⟨c', p'⟩ := y
  simp only [Pt.vals]
  rw [run_equalIn_agg W (d + 1) 42 _ _ hS hp]
  simp only [Program.fieldsOf, Tryd.underlying42]
  go_simp
  repeat' split
  all_goals simp_all
set_option maxRecDepth 100000 in
set_option maxHeartbeats 1000000 in
theorem br_eqIn (x y : Br) (d : Nat) (W : World) : (Op.equalIn (d + 1 + 1 + 1) 40 (.agg x.vals.toArray) (.agg y.vals.toArray)).run Tryd.prog W = .ok (decide (x = y)) W := by
  have u3 := Tryd.underlying3
  have a3 := Tryd.isAgg3
  have z3 := Tryd.sizeOf3
  have aA := Tryd.isAgg23
  have zA := Tryd.sizeOf23
  have hS : Tryd.prog.underlying 40 = some (.struct (Tryd.prog.fieldsOf 40)) := by kernel_rfl
  have hp : Tryd.prog.stoodInHeld 40 = false := by kernel_rfl
  obtain ⟨p, e, ad⟩ := x
  obtain ⟨p', e', ad'⟩ := y
  have h1 := ad_eqIn ad ad' d W
  have hd : decide (Br.mk p e ad = Br.mk p' e' ad') = (decide (p = p') && (decide (e = e') && decide (ad = ad'))) := by simp
  rw [hd]
  generalize decide (ad = ad') = q at *
  clear hd
  obtain ⟨x1, x2, x3, x4, x5, x6⟩ := ad
  obtain ⟨y1, y2, y3, y4, y5, y6⟩ := ad'
  simp only [Ad.vals] at h1
  simp only [Br.vals, Ad.vals]
  rw [run_equalIn_agg W (d + 1 + 1) 40 _ _ hS hp]
  simp only [Program.fieldsOf, Tryd.underlying40]
  cases q
  all_goals
    go_simp
    repeat' split
    all_goals simp_all
set_option maxRecDepth 100000 in
set_option maxHeartbeats 4000000 in
theorem bp_eqIn (x y : Bp) (d : Nat) (W : World) : (Op.equalIn (d + 1 + 1 + 1 + 1) 44 (.agg x.vals.toArray) (.agg y.vals.toArray)).run Tryd.prog W = .ok (decide (x = y)) W := by
  have u3 := Tryd.underlying3
  have a3 := Tryd.isAgg3
  have z3 := Tryd.sizeOf3
  have aF := Tryd.isAgg38
  have zF := Tryd.sizeOf38
  have aB := Tryd.isAgg40
  have zB := Tryd.sizeOf40
  have aP := Tryd.isAgg42
  have zP := Tryd.sizeOf42
  have hS : Tryd.prog.underlying 44 = some (.struct (Tryd.prog.fieldsOf 44)) := by kernel_rfl
  have hp : Tryd.prog.stoodInHeld 44 = false := by kernel_rfl
  obtain ⟨k, f, r, c, s, p, n1, n2, n3, n4⟩ := x
  obtain ⟨k', f', r', c', s', p', m1, m2, m3, m4⟩ := y
  have h1 := fl_eqIn f f' (d + 1) W
  have h2 := br_eqIn r r' d W
  have h3 := br_eqIn s s' d W
  have h4 := pt_eqIn p p' (d + 1) W
  have hd : decide (Bp.mk k f r c s p n1 n2 n3 n4 = Bp.mk k' f' r' c' s' p' m1 m2 m3 m4) = (decide (k = k') && (decide (f = f') && (decide (r = r') && (decide (c = c') && (decide (s = s') && (decide (p = p') && (decide (n1 = m1) && (decide (n2 = m2) && (decide (n3 = m3) && decide (n4 = m4)))))))))) := by simp
  rw [hd]
  generalize decide (f = f') = q1 at *
  generalize decide (r = r') = q2 at *
  generalize decide (s = s') = q3 at *
  generalize decide (p = p') = q4 at *
  clear hd
  obtain ⟨f1, f2, f3, f4, f5, f6, f7⟩ := f
  obtain ⟨g1, g2, g3, g4, g5, g6, g7⟩ := f'
  obtain ⟨r1, r2, ⟨x1, x2, x3, x4, x5, x6⟩⟩ := r
  obtain ⟨t1, t2, ⟨y1, y2, y3, y4, y5, y6⟩⟩ := r'
  obtain ⟨s1, s2, ⟨z1, z2, z3, z4, z5, z6⟩⟩ := s
  obtain ⟨o1, o2, ⟨v1, v2, v3, v4, v5, v6⟩⟩ := s'
  obtain ⟨p1, p2⟩ := p
  obtain ⟨i1, i2⟩ := p'
  simp only [Fl.vals, Br.vals, Pt.vals, Ad.vals] at h1 h2 h3 h4
  simp only [Bp.vals, Fl.vals, Br.vals, Pt.vals, Ad.vals, List.cons_append, List.nil_append]
  rw [run_equalIn_agg W (d + 1 + 1 + 1) 44 _ _ hS hp]
  have hI : ∀ (a b : Int) (W : World), (Op.equalIn (d + 1 + 1 + 1) 3 (.int .i64 a) (.int .i64 b)).run Tryd.prog W = .ok (a == b) W := fun a b W => run_equalIn_int W (d + 1 + 1) 3 .i64 .i64 a b u3
  generalize d + 1 + 1 + 1 = D at *
  simp only [Program.fieldsOf, Tryd.underlying44]
  by_cases e0 : k = k'
  · subst e0
    cases q1
    · go_simp
    ·
      cases q2
      · go_simp
      ·
        by_cases e3 : c = c'
        · subst e3
          cases q3
          · go_simp
          ·
            cases q4
            · go_simp
            ·
              by_cases e6 : n1 = m1
              · subst e6
                by_cases e7 : n2 = m2
                · subst e7
                  by_cases e8 : n3 = m3
                  · subst e8
                    by_cases e9 : n4 = m4
                    · subst e9
                      go_simp
                    · have e9b : (n4 == m4) = false := by rw [beq_eq_false_iff_ne]; exact e9
                      go_simp
                  · have e8b : (n3 == m3) = false := by rw [beq_eq_false_iff_ne]; exact e8
                    go_simp
                · have e7b : (n2 == m2) = false := by rw [beq_eq_false_iff_ne]; exact e7
                  go_simp
              · have e6b : (n1 == m1) = false := by rw [beq_eq_false_iff_ne]; exact e6
                go_simp
        · have e3b : (c == c') = false := by rw [beq_eq_false_iff_ne]; exact e3
          go_simp
  · have e0b : (k == k') = false := by rw [beq_eq_false_iff_ne]; exact e0
    go_simp
theorem bp_eq (x y : Bp) (W : World) : (binOp .eql 44 (.agg x.vals.toArray) (.agg y.vals.toArray)).run Tryd.prog W = .ok (.bool (decide (x = y))) W := by
  rw [run_eql_struct, show (10000 : Nat) = 9996 + 1 + 1 + 1 + 1 from rfl, bp_eqIn]; rfl
theorem bp_neq (x y : Bp) (W : World) : (binOp .neq 44 (.agg x.vals.toArray) (.agg y.vals.toArray)).run Tryd.prog W = .ok (.bool (!decide (x = y))) W := by
  rw [run_neq_struct, show (10000 : Nat) = 9996 + 1 + 1 + 1 + 1 from rfl, bp_eqIn]; rfl
theorem bp_guard (op : BinOp) (x y : Bp) (p q : Operand) (W : World) : (eqGuard op 44 p q (.agg x.vals.toArray) (.agg y.vals.toArray)).run Tryd.prog W = .ok () W := run_eqGuard_agg W op _ p q _ _ (by kernel_rfl)
theorem fl_eq (x y : Fl) (W : World) : (binOp .eql 38 (.agg x.vals.toArray) (.agg y.vals.toArray)).run Tryd.prog W = .ok (.bool (decide (x = y))) W := by
  rw [run_eql_struct, show (10000 : Nat) = 9998 + 1 + 1 from rfl, fl_eqIn]; rfl
theorem fl_neq (x y : Fl) (W : World) : (binOp .neq 38 (.agg x.vals.toArray) (.agg y.vals.toArray)).run Tryd.prog W = .ok (.bool (!decide (x = y))) W := by
  rw [run_neq_struct, show (10000 : Nat) = 9998 + 1 + 1 from rfl, fl_eqIn]; rfl
theorem fl_guard (op : BinOp) (x y : Fl) (p q : Operand) (W : World) : (eqGuard op 38 p q (.agg x.vals.toArray) (.agg y.vals.toArray)).run Tryd.prog W = .ok () W := run_eqGuard_agg W op _ p q _ _ (by kernel_rfl)
end Go.Proofs.YteibhcocldihbaaDoor
namespace Go.Proofs.YteibhcocldihbaaDoor
open Go.RowKit
structure Mk where
  reply : Bool
  port : Int
  sys : Ad
  txn : Int
deriving DecidableEq, Inhabited
def Mk.vals (m : Mk) : List Value := .bool m.reply :: .int .i64 m.port :: (m.sys.vals ++ [.int .i64 m.txn])
theorem Mk.len (m : Mk) : m.vals.length = 9 := rfl
theorem Mk.one (m : Mk) : ∀ v ∈ m.vals, v.oneCell' = true := fun v hv => by
  simp only [Mk.vals, Ad.vals, List.cons_append, List.nil_append, List.mem_cons, List.not_mem_nil, or_false] at hv
  rcases hv with rfl | rfl | rfl | rfl | rfl | rfl | rfl | rfl | rfl <;> rfl
theorem info25 : (Tryd.prog.info? 25).map (·.size) = some 9 := by kernel_rfl
def Mk.okB (m : Mk) : Bool := [m.port].all sh && (decide (0 ≤ m.txn) && decide (m.txn < 4294967296))
def Mk.kind (m : Mk) : Nat := if m.reply then 2 else 1
def Mk.bytes (m : Mk) : List UInt8 := [2, 1] ++ beBytes m.kind 1 ++ [16] ++ beBytes m.port.toNat 2 ++ m.sys.list ++ beBytes m.txn.toNat 4 ++ List.replicate 94 0
theorem Mk.bytes_len (m : Mk) : m.bytes.length = 110 := by simp [Mk.bytes, beBytes_len, Ad.list]
theorem Mk.ok_iff {m : Mk} : m.okB = true ↔ 0 ≤ m.port ∧ m.port ≤ 65535 ∧ 0 ≤ m.txn ∧ m.txn < 4294967296 := by
  simp [Mk.okB, sh, and_assoc]
def readMkM (s : List UInt8) : Mk × Bool × RS :=
  let h := headM (newM s 0) [2, 1]
  let k := numM h 1
  let R2 := if k.2.err = none ∧ k.1 ≠ 1 ∧ k.1 ≠ 2 then failM k.2 3 (h.place : Int) else k.2
  let p := numM (headM R2 [16]) 2
  let b := bytesM p.2 6
  let t := numM b.2 4
  let c := bytesM t.2 2
  let d := bytesM (headM c.2 [0, 0]) 90
  (⟨decide (k.1 = 2), p.1, Ad.of b.1, t.1⟩, zerosM d.2)
theorem readMk_bytes (m : Mk) (hm : m.okB = true) : ∃ R, readMkM m.bytes = (m, true, R) ∧ R.err = none := by
  obtain ⟨p0, p1, t0, t1⟩ := Mk.ok_iff.1 hm
  have hk : m.kind = 1 ∨ m.kind = 2 := by unfold Mk.kind; split <;> simp
  have g0 : (newM m.bytes 0).Left ([2, 1] ++ (beBytes m.kind 1 ++ ([16] ++ (beBytes m.port.toNat 2 ++ (m.sys.list ++ (beBytes m.txn.toNat 4 ++ ([0, 0] ++ ([0, 0] ++ (List.replicate 90 0 ++ []))))))))) := by
    have := newM_left m.bytes 0 (by rw [Mk.bytes_len]; decide)
    have e : (List.replicate 94 (0 : UInt8)) = [0, 0] ++ ([0, 0] ++ (List.replicate 90 0 ++ [])) := by decide
    unfold Mk.bytes at this ⊢
    rw [e] at this ⊢
    simpa only [List.append_assoc] using this
  have g1 := g0.skip rfl
  have g2 := g1.skip (beBytes_len _ 1)
  have g3 := g2.skip rfl
  have g4 := g3.skip (beBytes_len _ 2)
  have g5 := g4.skip (Ad.len _)
  have g6 := g5.skip (beBytes_len _ 4)
  have g7 := g6.skip (n := 2) rfl
  have g8 := g7.skip rfl
  have h90 : (List.replicate 90 (0 : UInt8)).length = 90 := by simp
  have g9 := g8.skip h90
  refine ⟨{ ((((((((((newM m.bytes 0).skip 2).skip 1).skip 1).skip 2).skip 6).skip 4).skip 2).skip 2).skip 90) with at_ := ((((((((((newM m.bytes 0).skip 2).skip 1).skip 1).skip 2).skip 6).skip 4).skip 2).skip 2).skip 90).s.length }, ?_, g9.none⟩
  unfold readMkM
  simp only [headM_left g0, numM_be g1 (show m.kind < 256 ^ 1 by omega)]
  rw [if_neg (by omega)]
  simp only [headM_left g2, numM_be g3 (show m.port.toNat < 256 ^ 2 by omega), bytesM_left g4 (Ad.len _), numM_be g5 (show m.txn.toNat < 256 ^ 4 by omega), bytesM_left g6 (n := 2) rfl, headM_left g7, bytesM_left g8 h90, zerosM_left g9 (by simp), Ad.of_list]
  have hd : decide (m.kind = 2) = m.reply := by unfold Mk.kind; cases m.reply <;> simp
  rw [hd, show ((m.port.toNat : Nat) : Int) = m.port by omega, show ((m.txn.toNat : Nat) : Int) = m.txn by omega]
  rfl
/-! ### '==' of a value and itself -/
theorem ad_self (x : Ad) (d : Nat) (W : World) : (Op.equalIn (d + 1 + 1) 23 (.agg x.vals.toArray) (.agg x.vals.toArray)).run Tryd.prog W = .ok true W := by
  rw [ad_eqIn]; simp
theorem pty_self (p : Pty) (d : Nat) (W : World) : (Op.equalIn (d + 1 + 1 + 1) 83 (.agg p.vals.toArray) (.agg p.vals.toArray)).run Tryd.prog W = .ok true W := by
  have u3 := Tryd.underlying3
  have a3 := Tryd.isAgg3
  have z3 := Tryd.sizeOf3
  have a27 := Tryd.isAgg23
  have z27 := Tryd.sizeOf23
  have hS : Tryd.prog.underlying 83 = some (.struct (Tryd.prog.fieldsOf 83)) := by kernel_rfl
  have hp : Tryd.prog.stoodInHeld 83 = false := by kernel_rfl
  obtain ⟨x0, ⟨x1, x2, x3, x4, x5, x6⟩, x7, x8, x9, x10⟩ := p
  have had := ad_self ⟨x1, x2, x3, x4, x5, x6⟩ d W
  simp only [Ad.vals] at had
  simp only [Pty.vals, Ad.vals, List.cons_append, List.nil_append]
  rw [run_equalIn_agg W (d + 1 + 1) 83 _ _ hS hp]
  simp only [Program.fieldsOf, Tryd.underlying83]
  go_simp
set_option maxRecDepth 100000 in
set_option maxHeartbeats 1000000 in
theorem lac_self (l : Lac) (d : Nat) (W : World) : (Op.equalIn (d + 1 + 1 + 1 + 1) 85 (.agg l.vals.toArray) (.agg l.vals.toArray)).run Tryd.prog W = .ok true W := by
  have u3 := Tryd.underlying3
  have a3 := Tryd.isAgg3
  have z3 := Tryd.sizeOf3
  have a54 := Tryd.isAgg83
  have z54 := Tryd.sizeOf83
  have hS : Tryd.prog.underlying 85 = some (.struct (Tryd.prog.fieldsOf 85)) := by kernel_rfl
  have hp : Tryd.prog.stoodInHeld 85 = false := by kernel_rfl
  obtain ⟨p, q, dl⟩ := l
  have h1 : (Op.equalIn (d + 2) 23 (.agg p.sys.vals.toArray) (.agg p.sys.vals.toArray)).run Tryd.prog W = .ok true W := ad_self p.sys d W
  have h2 : (Op.equalIn (d + 2) 23 (.agg q.sys.vals.toArray) (.agg q.sys.vals.toArray)).run Tryd.prog W = .ok true W := ad_self q.sys d W
  obtain ⟨x0, ⟨x1, x2, x3, x4, x5, x6⟩, x7, x8, x9, x10⟩ := p
  obtain ⟨y0, ⟨y1, y2, y3, y4, y5, y6⟩, y7, y8, y9, y10⟩ := q
  simp only [Pty.vals, Ad.vals, List.cons_append, List.nil_append] at h1 h2
  simp only [Lac.vals, Pty.vals, Ad.vals, List.cons_append, List.nil_append]
  rw [run_equalIn_agg W (d + 1 + 1 + 1) 85 _ _ hS hp]
  simp only [Program.fieldsOf, Tryd.underlying85]
  go_simp
theorem lac_eq (l : Lac) (W : World) : (binOp .eql 85 (.agg l.vals.toArray) (.agg l.vals.toArray)).run Tryd.prog W = .ok (.bool true) W := by
  rw [run_eql_struct, show (10000 : Nat) = 9996 + 1 + 1 + 1 + 1 from rfl, lac_self]; rfl
theorem lac_guard (l : Lac) (p q : Operand) (W : World) : (eqGuard .eql 85 p q (.agg l.vals.toArray) (.agg l.vals.toArray)).run Tryd.prog W = .ok () W := run_eqGuard_agg W .eql _ p q _ _ (by kernel_rfl)
theorem mk_self (m : Mk) (d : Nat) (W : World) : (Op.equalIn (d + 1 + 1 + 1) 25 (.agg m.vals.toArray) (.agg m.vals.toArray)).run Tryd.prog W = .ok true W := by
  have u3 := Tryd.underlying3
  have a3 := Tryd.isAgg3
  have z3 := Tryd.sizeOf3
  have u4 := Tryd.underlying4
  have a4 := Tryd.isAgg4
  have z4 := Tryd.sizeOf4
  have a27 := Tryd.isAgg23
  have z27 := Tryd.sizeOf23
  have hS : Tryd.prog.underlying 25 = some (.struct (Tryd.prog.fieldsOf 25)) := by kernel_rfl
  have hp : Tryd.prog.stoodInHeld 25 = false := by kernel_rfl
  obtain ⟨x0, x7, ⟨x1, x2, x3, x4, x5, x6⟩, x8⟩ := m
  have had := ad_self ⟨x1, x2, x3, x4, x5, x6⟩ d W
  simp only [Ad.vals] at had
  simp only [Mk.vals, Ad.vals, List.cons_append, List.nil_append]
  rw [run_equalIn_agg W (d + 1 + 1) 25 _ _ hS hp]
  simp only [Program.fieldsOf, Tryd.underlying25]
  go_simp
theorem mk_eq (m : Mk) (W : World) : (binOp .eql 25 (.agg m.vals.toArray) (.agg m.vals.toArray)).run Tryd.prog W = .ok (.bool true) W := by
  rw [run_eql_struct, show (10000 : Nat) = 9997 + 1 + 1 + 1 from rfl, mk_self]; rfl
theorem mk_guard (m : Mk) (p q : Operand) (W : World) : (eqGuard .eql 25 p q (.agg m.vals.toArray) (.agg m.vals.toArray)).run Tryd.prog W = .ok () W := run_eqGuard_agg W .eql _ p q _ _ (by kernel_rfl)
end Go.Proofs.YteibhcocldihbaaDoor
namespace Go.Proofs.YteibhcocldihbaaDoor
open Go.RowKit
set_option maxRecDepth 100000 in
set_option maxHeartbeats 1000000 in
theorem mark_any (m : Mk) (w : World) :
    Calls Tryd.prog 15 #[.agg m.vals.toArray] w fun e w' => e = .returned (.bool m.okB) ∧ Below w.heap.size w w' := by
  unfold Mk.okB
  obtain ⟨rp, po, ⟨a, b, c, d, e, f⟩, tx⟩ := m
  simp only [Mk.vals, Ad.vals, List.cons_append, List.nil_append]
  cases hS : [po].all sh with
  | false =>
    have HS := Lib.hid hS
    clear hS
    go_enter Tryd.func15, Tryd.ntmps15
    go_wp2_with (first
      | ((with_reducible refine (short_any [po] _ _ 1 rfl (by decide) _ (one_cell po (by simp))).mono ?_); rintro e w1 ⟨rfl, rfl⟩; rw [HS.out]))
    go_ret
    exact ⟨rfl, by go_grown⟩
  | true =>
    have HS := Lib.hid hS
    clear hS
    by_cases h0 : 0 ≤ tx
    all_goals by_cases h1 : tx < 4294967296
    all_goals first
      | (exfalso; omega)
      | skip
    all_goals
      go_enter Tryd.func15, Tryd.ntmps15
      go_wp2_with (first
        | ((with_reducible refine (short_any [po] _ _ 1 rfl (by decide) _ (one_cell po (by simp))).mono ?_); rintro e w1 ⟨rfl, rfl⟩; rw [HS.out]))
      go_ret
      exact ⟨by simp [h0, h1], by go_grown⟩
theorem rep94 : Lib.repeatL (⟨#[0]⟩ : ByteArray).data.toList 94 = List.replicate 94 (0 : UInt8) := by decide +kernel
theorem repeat94 (w : World) : Calls Tryd.prog 44 #[.string ⟨#[0]⟩, .int .i64 94] w fun e w' => e = .returned (.string ⟨(List.replicate 94 (0 : UInt8)).toArray⟩) ∧ Below w.heap.size w w' := by
  have h := Tryd.strings_Repeat ⟨#[0]⟩ 94 w (by decide) (by decide)
  rw [rep94] at h
  exact h
def mkOut (m : Mk) : Value := if m.okB = true then .tuple #[.string ⟨m.bytes.toArray⟩, .nilIface] else .tuple #[.string ⟨#[]⟩, erV 1]
set_option maxRecDepth 100000 in
set_option maxHeartbeats 2000000 in
theorem mkWrite_any (m : Mk) (w : World) :
    Calls Tryd.prog 14 #[.agg m.vals.toArray] w fun e w' => e = .returned (mkOut m) ∧ Below w.heap.size w w' := by
  have HB := Lib.hid (Box.new w m.vals 25)
  have hb0 : Below w.heap.size w (w.alloc (.cells m.vals.toArray 25)) := (Below.refl _ _).alloc (Nat.le_refl _) _
  have hl0 : w.heap.size < (w.alloc (.cells m.vals.toArray 25)).heap.size := by simp
  unfold mkOut
  cases hk : m.okB
  · have Hk := Lib.hid hk
    clear hk
    go_enter Tryd.func14, Tryd.ntmps14
    go_upto_region 1 with (fail)
    generalize w.alloc (.cells m.vals.toArray 25) = W0 at *
    go_wp2_with (first
      | (with_reducible refine wpList_load_rng (ty := 25) m.vals (by with_unfolding_all rfl) HB.out.range Tryd.underlying25 (by with_unfolding_all rfl) (by with_unfolding_all exact info25) ?_)
      | ((with_reducible refine (mark_any m W0).mono ?_)
         rintro e w1 ⟨rfl, hb1⟩
         rw [Hk.out]))
    go_ret2
    exact ⟨rfl, hb0.trans (hb1.mono hb0.size)⟩
  · obtain ⟨p0, p1, d0, d1⟩ := Mk.ok_iff.1 hk
    have Hk := Lib.hid hk
    clear hk
    obtain ⟨rp, po, sys, tx⟩ := m
    simp only [] at p0 p1 d0 d1
    obtain ⟨po, rfl⟩ := Int.eq_ofNat_of_zero_le p0
    obtain ⟨tx, rfl⟩ := Int.eq_ofNat_of_zero_le d0
    have M1 : ∀ W, Calls Tryd.prog 43 #[.int .i64 (po : Int), .int .i64 2] W fun e w' => e = .returned (.string ⟨(beBytes po 2).toArray⟩) ∧ Below W.heap.size W w' := fun W => must_ok po 2 (by decide) (by decide) (by omega) W
    have M2 : ∀ W, Calls Tryd.prog 43 #[.int .i64 (tx : Int), .int .i64 4] W fun e w' => e = .returned (.string ⟨(beBytes tx 4).toArray⟩) ∧ Below W.heap.size W w' := fun W => must_ok tx 4 (by decide) (by decide) (by omega) W
    have M3 := repeat94
    have L1 : (beBytes po 2).length ≤ 2 := by rw [beBytes_len]; decide
    have L2 : (beBytes tx 4).length ≤ 4 := by rw [beBytes_len]; decide
    have L3 : (List.replicate 94 (0 : UInt8)).length ≤ 94 := by simp
    have L6 : sys.list.length ≤ 6 := Nat.le_of_eq (Ad.len _)
    have HK1 : Hid (∀ X : World, X.rangeAt w.heap.size 2 sys.vals → (convert 90 9 (.slice (some ⟨w.heap.size, 2, none⟩) 6 6)).run Tryd.prog X = .ok (.string ⟨sys.list.toArray⟩) X) := Lib.hid (fun X h => conv_ad sys h)
    clear p0 p1 d0 d1
    cases rp
    all_goals
      first
        | (have M0 : ∀ W, Calls Tryd.prog 43 #[.int .i64 1, .int .i64 1] W fun e w' => e = .returned (.string ⟨(beBytes (Mk.kind ⟨false, po, sys, tx⟩) 1).toArray⟩) ∧ Below W.heap.size W w' := fun W => must_ok 1 1 (by decide) (by decide) (by decide) W
           have hR : Mk.bytes ⟨false, po, sys, tx⟩ = [2, 1] ++ beBytes (Mk.kind ⟨false, po, sys, tx⟩) 1 ++ [16] ++ beBytes po 2 ++ sys.list ++ beBytes tx 4 ++ List.replicate 94 0 := rfl
           rw [hR]
           have L0 : (beBytes (Mk.kind ⟨false, po, sys, tx⟩) 1).length ≤ 2 := by rw [beBytes_len]; decide
           generalize beBytes (Mk.kind ⟨false, po, sys, tx⟩) 1 = B0 at *
           have HM0 := Lib.hid M0)
        | (have M0 : ∀ W, Calls Tryd.prog 43 #[.int .i64 2, .int .i64 1] W fun e w' => e = .returned (.string ⟨(beBytes (Mk.kind ⟨true, po, sys, tx⟩) 1).toArray⟩) ∧ Below W.heap.size W w' := fun W => must_ok 2 1 (by decide) (by decide) (by decide) W
           have hR : Mk.bytes ⟨true, po, sys, tx⟩ = [2, 1] ++ beBytes (Mk.kind ⟨true, po, sys, tx⟩) 1 ++ [16] ++ beBytes po 2 ++ sys.list ++ beBytes tx 4 ++ List.replicate 94 0 := rfl
           rw [hR]
           have L0 : (beBytes (Mk.kind ⟨true, po, sys, tx⟩) 1).length ≤ 2 := by rw [beBytes_len]; decide
           generalize beBytes (Mk.kind ⟨true, po, sys, tx⟩) 1 = B0 at *
           have HM0 := Lib.hid M0)
      clear hR M0
      generalize beBytes po 2 = B1 at *
      generalize beBytes tx 4 = B2 at *
      generalize List.replicate 94 (0 : UInt8) = B3 at *
      generalize sys.list = S at *
      have HM1 := Lib.hid M1; have HM2 := Lib.hid M2; have HM3 := Lib.hid M3
      clear M1 M2 M3
      go_enter Tryd.func14, Tryd.ntmps14
      go_upto_region 1 with (fail)
      generalize World.alloc _ _ = W0 at *
      go_upto_region 3 with (first
        | (with_reducible refine wpList_load_rng (ty := 25) (Mk.vals _) (by with_unfolding_all rfl) HB.out.range Tryd.underlying25 (by with_unfolding_all rfl) (by with_unfolding_all exact info25) ?_)
        | ((with_reducible refine (mark_any _ W0).mono ?_)
           rintro e w1 ⟨rfl, hb1⟩
           rw [Hk.out]))
      have HB1 := Lib.hid (HB.out.below hb1 hl0)
      have hl1 := Nat.lt_of_lt_of_le hl0 hb1.size
      have c0 := HB1.out.cell 0
      have c1 : w1.cell? ⟨w.heap.size, 1, none⟩ = some (.int .i64 (po : Int)) := HB1.out.cell 1
      have c8 : w1.cell? ⟨w.heap.size, 8, none⟩ = some (.int .i64 (tx : Int)) := HB1.out.cell 8
      have hr : w1.rangeAt w.heap.size 2 sys.vals := fun i v hi => by
        have := HB1.out.range (2 + i) v (by
          show (_ :: _ :: (sys.vals ++ _))[2 + i]? = some v
          rw [Nat.add_comm, List.getElem?_cons_succ, List.getElem?_cons_succ, List.getElem?_append_left (List.getElem?_eq_some_iff.1 hi).1]; exact hi)
        simpa using this
      simp only [Mk.vals, List.getElem?_toArray, List.getElem?_cons_zero] at c0
      have k1 : ∀ x : Ext w1, (convert 90 9 (.slice (some ⟨w.heap.size, 2, none⟩) 6 6)).run Tryd.prog x.val = .ok (.string ⟨S.toArray⟩) x.val := fun x => HK1.out _ (rangeAt_below hr x.below hl1)
      clear hr
      go_wp2_with fail
      refine wp_region_ext (by kernel_rfl) (by kernel_rfl) ?_
      repeat (go_big_quiet_step (first | (with_reducible exact Calls.ext _ (HM0.out _)) | (with_reducible exact Calls.ext _ (HM1.out _)) | (with_reducible exact Calls.ext _ (HM2.out _)) | (with_reducible exact Calls.ext _ (HM3.out _))))
      refine wpQuiet_nil ?_
      rintro w2 ⟨⟨_, hb2⟩, rfl⟩
      go_wp2_with fail
      go_ret2
      refine ⟨?_, (hb0.trans (hb1.mono hb0.size)).trans (hb2.mono (Nat.le_trans hb0.size hb1.size))⟩
      simp [List.append_assoc]
end Go.Proofs.YteibhcocldihbaaDoor

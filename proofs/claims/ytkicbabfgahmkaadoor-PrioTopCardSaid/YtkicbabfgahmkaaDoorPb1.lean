/- prio: Right, Port, Pack, PackPort. -/
import Derived.Test.YtkicbabfgahmkaaDoorCpA
import Derived.Test.YtkicbabfgahmkaaDoorBpduM
import Derived.Test.YtkicbabfgahmkaaDoorQuietTail
import Derived.StillTailTactics
set_option linter.all false
namespace Go.Proofs.YtkicbabfgahmkaaDoor
open Go.RowKit
def Br.vals (x : Br) : List Value := .int .i64 x.prio :: .int .i64 x.ext :: x.ad.vals
def Pt.vals (x : Pt) : List Value := [.int .i64 x.prio, .int .i64 x.no]
theorem Br.one (x : Br) : ∀ v ∈ x.vals, v.oneCell' = true := fun v hv => by
  simp only [Br.vals, Ad.vals, List.mem_cons, List.not_mem_nil, or_false] at hv
  rcases hv with rfl | rfl | rfl | rfl | rfl | rfl | rfl | rfl <;> rfl
theorem Pt.one (x : Pt) : ∀ v ∈ x.vals, v.oneCell' = true := fun v hv => by
  simp only [Pt.vals, List.mem_cons, List.not_mem_nil, or_false] at hv
  rcases hv with rfl | rfl <;> rfl
theorem info53 : (Tryd.prog.info? 53).map (·.size) = some 8 := by kernel_rfl
theorem info55 : (Tryd.prog.info? 55).map (·.size) = some 2 := by kernel_rfl
set_option maxRecDepth 100000 in
set_option maxHeartbeats 1000000 in
theorem prioRight_any (b : Br) (w : World) :
    Calls Tryd.prog 30 #[.agg b.vals.toArray] w fun e w' => e = .returned (.bool b.okB) ∧ Below w.heap.size w w' := by
  obtain ⟨p, x, ⟨a, b, c, d, e, f⟩⟩ := b
  simp only [Br.vals, Ad.vals]
  by_cases h1 : 0 ≤ p
  · by_cases h2 : p ≤ 61440
    · by_cases h3 : p % 4096 = 0
      · have hb3 : (p % 4096 == 0) = true := by simp [h3]
        by_cases h4 : 0 ≤ x
        · by_cases h5 : x ≤ 4095
          · go_enter Tryd.func30, Tryd.ntmps30
            go_wp2_with fail
            go_ret
            exact ⟨by unfold Br.okB; simp [*] <;> intros <;> omega, by go_grown⟩
          · go_enter Tryd.func30, Tryd.ntmps30
            go_wp2_with fail
            go_ret
            exact ⟨by unfold Br.okB; simp [*] <;> intros <;> omega, by go_grown⟩
        · go_enter Tryd.func30, Tryd.ntmps30
          go_wp2_with fail
          go_ret
          exact ⟨by unfold Br.okB; simp [*] <;> intros <;> omega, by go_grown⟩
      · have hb3 : (p % 4096 == 0) = false := by simp [h3]
        go_enter Tryd.func30, Tryd.ntmps30
        go_wp2_with fail
        go_ret
        exact ⟨by unfold Br.okB; simp [*] <;> intros <;> omega, by go_grown⟩
    · go_enter Tryd.func30, Tryd.ntmps30
      go_wp2_with fail
      go_ret
      exact ⟨by unfold Br.okB; simp [*] <;> intros <;> omega, by go_grown⟩
  · go_enter Tryd.func30, Tryd.ntmps30
    go_wp2_with fail
    go_ret
    exact ⟨by unfold Br.okB; simp [*] <;> intros <;> omega, by go_grown⟩
set_option maxRecDepth 100000 in
set_option maxHeartbeats 1000000 in
theorem prioPort_any (b : Pt) (w : World) :
    Calls Tryd.prog 31 #[.agg b.vals.toArray] w fun e w' => e = .returned (.bool b.okB) ∧ Below w.heap.size w w' := by
  obtain ⟨p, x⟩ := b
  simp only [Pt.vals]
  by_cases h1 : 0 ≤ p
  · by_cases h2 : p ≤ 240
    · by_cases h3 : p % 16 = 0
      · have hb3 : (p % 16 == 0) = true := by simp [h3]
        by_cases h4 : 1 ≤ x
        · by_cases h5 : x ≤ 4095
          · go_enter Tryd.func31, Tryd.ntmps31
            go_wp2_with fail
            go_ret
            exact ⟨by unfold Pt.okB; simp [*] <;> intros <;> omega, by go_grown⟩
          · go_enter Tryd.func31, Tryd.ntmps31
            go_wp2_with fail
            go_ret
            exact ⟨by unfold Pt.okB; simp [*] <;> intros <;> omega, by go_grown⟩
        · go_enter Tryd.func31, Tryd.ntmps31
          go_wp2_with fail
          go_ret
          exact ⟨by unfold Pt.okB; simp [*] <;> intros <;> omega, by go_grown⟩
      · have hb3 : (p % 16 == 0) = false := by simp [h3]
        go_enter Tryd.func31, Tryd.ntmps31
        go_wp2_with fail
        go_ret
        exact ⟨by unfold Pt.okB; simp [*] <;> intros <;> omega, by go_grown⟩
    · go_enter Tryd.func31, Tryd.ntmps31
      go_wp2_with fail
      go_ret
      exact ⟨by unfold Pt.okB; simp [*] <;> intros <;> omega, by go_grown⟩
  · go_enter Tryd.func31, Tryd.ntmps31
    go_wp2_with fail
    go_ret
    exact ⟨by unfold Pt.okB; simp [*] <;> intros <;> omega, by go_grown⟩
theorem or_int (a b : Nat) (ha : a < 65536) (hb : b < 65536) : bits .or .i64 (a : Int) (b : Int) = ((a ||| b : Nat) : Int) := by
  have hx : a ||| b < 2 ^ 16 := Nat.or_lt_two_pow (n := 16) ha hb
  have h1 : (BitVec.ofInt 64 (a : Int)).toNat = a := by rw [BitVec.ofInt_natCast, BitVec.toNat_ofNat]; exact Nat.mod_eq_of_lt (by omega)
  have h2 : (BitVec.ofInt 64 (b : Int)).toNat = b := by rw [BitVec.ofInt_natCast, BitVec.toNat_ofNat]; exact Nat.mod_eq_of_lt (by omega)
  show IntKind.i64.wrap ((BitVec.ofInt 64 (a : Int) ||| BitVec.ofInt 64 (b : Int)).toNat : Int) = _
  rw [BitVec.toNat_or, h1, h2, IntKind.wrap_i64]
  omega
theorem or_sum (k i b : Nat) (hb : b < 2 ^ i) (hk : 2 ^ i * k + b < 65536) : bits .or .i64 ((2 ^ i * k : Nat) : Int) (b : Int) = ((2 ^ i * k + b : Nat) : Int) := by
  rw [or_int _ _ (by omega) (by omega), Nat.two_pow_add_eq_or_of_lt hb]
set_option maxRecDepth 100000 in
set_option maxHeartbeats 1000000 in
theorem pack_ok (b : Br) (hb : b.okB = true) (w : World) :
    Calls Tryd.prog 32 #[.agg b.vals.toArray] w fun e w' => e = .returned (.tuple #[.string ⟨b.bytes.toArray⟩, .nilIface]) ∧ Below w.heap.size w w' := by
  obtain ⟨h1, h2, h3, h4, h5⟩ := Br.ok_iff.1 hb
  have HK := Lib.hid hb
  clear hb
  obtain ⟨p, x, ad⟩ := b
  simp only [] at h1 h2 h3 h4 h5
  obtain ⟨p, rfl⟩ := Int.eq_ofNat_of_zero_le h1
  obtain ⟨x, rfl⟩ := Int.eq_ofNat_of_zero_le h4
  obtain ⟨k, rfl⟩ : ∃ k, p = 2 ^ 12 * k := ⟨p / 4096, by omega⟩
  have M0 : ∀ W, Calls Tryd.prog 51 #[.int .i64 ((2 ^ 12 * k + x : Nat) : Int), .int .i64 2] W fun e w' => e = .returned (.string ⟨(beBytes (2 ^ 12 * k + x) 2).toArray⟩) ∧ Below W.heap.size W w' := fun W => must_ok _ 2 (by decide) (by decide) (by omega) W
  have hor := or_sum k 12 x (by omega) (by omega)
  have hR : Br.bytes ⟨((2 ^ 12 * k : Nat) : Int), (x : Int), ad⟩ = beBytes (2 ^ 12 * k + x) 2 ++ ad.list := by
    unfold Br.bytes
    simp only []
    rw [show (((2 ^ 12 * k : Nat) : Int) + (x : Int)).toNat = 2 ^ 12 * k + x by omega]
  rw [hR]
  have HB := Lib.hid (Box.new w (Br.vals ⟨((2 ^ 12 * k : Nat) : Int), (x : Int), ad⟩) 53)
  have hb0 : Below w.heap.size w (w.alloc (.cells (Br.vals ⟨((2 ^ 12 * k : Nat) : Int), (x : Int), ad⟩).toArray 53)) := (Below.refl _ _).alloc (Nat.le_refl _) _
  have hl0 : w.heap.size < (w.alloc (.cells (Br.vals ⟨((2 ^ 12 * k : Nat) : Int), (x : Int), ad⟩).toArray 53)).heap.size := by simp
  have HM0 := Lib.hid M0
  have L0 : (beBytes (2 ^ 12 * k + x) 2).length ≤ 2 := by rw [beBytes_len]; decide
  have L1 : ad.list.length ≤ 6 := Nat.le_of_eq (Ad.len _)
  have HK1 : Hid (∀ X : World, X.rangeAt w.heap.size 2 ad.vals → (convert 83 9 (.slice (some ⟨w.heap.size, 2, none⟩) 6 6)).run Tryd.prog X = .ok (.string ⟨ad.list.toArray⟩) X) := Lib.hid (fun X h => conv_ad ad h)
  clear M0 hR h1 h2 h3 h4 h5
  generalize beBytes (2 ^ 12 * k + x) 2 = B0 at *
  generalize ad.list = S at *
  generalize (2 ^ 12 * k : Nat) = p at *
  generalize (p + x : Nat) = q at *
  go_enter Tryd.func32, Tryd.ntmps32
  go_upto_region 1 with (fail)
  generalize World.alloc _ _ = W0 at *
  go_upto_region 3 with (first
    | (with_reducible refine wpList_load_rng (ty := 53) (Br.vals _) (by with_unfolding_all rfl) HB.out.range Tryd.underlying53 (by with_unfolding_all rfl) (by with_unfolding_all exact info53) ?_)
    | ((with_reducible refine (prioRight_any _ W0).mono ?_)
       rintro e w1 ⟨rfl, hb1⟩
       rw [HK.out]))
  have HB1 := Lib.hid (HB.out.below hb1 hl0)
  have hl1 := Nat.lt_of_lt_of_le hl0 hb1.size
  have c0 : w1.cell? ⟨w.heap.size, 0, none⟩ = some (.int .i64 (p : Int)) := HB1.out.cell 0
  have c1 : w1.cell? ⟨w.heap.size, 1, none⟩ = some (.int .i64 (x : Int)) := HB1.out.cell 1
  have hr : w1.rangeAt w.heap.size 2 ad.vals := fun i v hi => by
    have := HB1.out.range (2 + i) v (by
      show (_ :: _ :: ad.vals)[2 + i]? = some v
      rw [Nat.add_comm, List.getElem?_cons_succ, List.getElem?_cons_succ]; exact hi)
    simpa using this
  have k1 : ∀ x : Ext w1, (convert 83 9 (.slice (some ⟨w.heap.size, 2, none⟩) 6 6)).run Tryd.prog x.val = .ok (.string ⟨S.toArray⟩) x.val := fun x => HK1.out _ (rangeAt_below hr x.below hl1)
  clear hr
  refine wp_region_ext (by kernel_rfl) (by kernel_rfl) ?_
  repeat (go_big_quiet_step (first | (with_reducible exact Calls.ext _ (HM0.out _))))
  refine wpQuiet_nil ?_
  rintro w2 ⟨⟨_, hb2⟩, rfl⟩
  go_wp2_with fail
  go_ret2
  exact ⟨rfl, (hb0.trans (hb1.mono hb0.size)).trans (hb2.mono (Nat.le_trans hb0.size hb1.size))⟩
set_option maxRecDepth 100000 in
set_option maxHeartbeats 1000000 in
theorem packPort_ok (b : Pt) (hb : b.okB = true) (w : World) :
    Calls Tryd.prog 33 #[.agg b.vals.toArray] w fun e w' => e = .returned (.tuple #[.string ⟨b.bytes.toArray⟩, .nilIface]) ∧ Below w.heap.size w w' := by
  obtain ⟨h1, h2, h3, h4, h5⟩ := Pt.ok_iff.1 hb
  have HK := Lib.hid hb
  clear hb
  obtain ⟨p, x⟩ := b
  simp only [] at h1 h2 h3 h4 h5
  obtain ⟨p, rfl⟩ := Int.eq_ofNat_of_zero_le h1
  obtain ⟨x, rfl⟩ := Int.eq_ofNat_of_zero_le (show 0 ≤ x by omega)
  obtain ⟨k, rfl⟩ : ∃ k, p = 16 * k := ⟨p / 16, by omega⟩
  have hor := or_sum k 12 x (by omega) (by omega)
  have hR : Pt.bytes ⟨((16 * k : Nat) : Int), (x : Int)⟩ = beBytes (2 ^ 12 * k + x) 2 := by
    unfold Pt.bytes
    simp only []
    rw [show (((16 * k : Nat) : Int) * 256 + (x : Int)).toNat = 2 ^ 12 * k + x by omega]
  rw [hR]
  clear hR
  have HB0 := Lib.hid (Box.new w (Pt.vals ⟨((16 * k : Nat) : Int), (x : Int)⟩) 55)
  have hb0 : Below w.heap.size w (w.alloc (.cells (Pt.vals ⟨((16 * k : Nat) : Int), (x : Int)⟩).toArray 55)) := (Below.refl _ _).alloc (Nat.le_refl _) _
  have hl0 : w.heap.size < (w.alloc (.cells (Pt.vals ⟨((16 * k : Nat) : Int), (x : Int)⟩).toArray 55)).heap.size := by simp
  have M0 : ∀ W, Calls Tryd.prog 51 #[.int .i64 ((2 ^ 12 * k + x : Nat) : Int), .int .i64 2] W fun e w' => e = .returned (.string ⟨(beBytes (2 ^ 12 * k + x) 2).toArray⟩) ∧ Below W.heap.size W w' := fun W => must_ok _ 2 (by decide) (by decide) (by omega) W
  have HM0 := Lib.hid M0
  have hsh : wrap64 (((16 * k : Nat) : Int) * 256) = ((2 ^ 12 * k : Nat) : Int) := by
    rw [show ((16 * k : Nat) : Int) * 256 = ((2 ^ 12 * k : Nat) : Int) by omega]
    unfold wrap64; omega
  clear M0 h1 h2 h3 h4 h5
  generalize (2 ^ 12 * k : Nat) = q at *
  generalize (16 * k : Nat) = p at *
  generalize (q + x : Nat) = s at *
  go_enter Tryd.func33, Tryd.ntmps33
  go_upto_region 1 with (fail)
  generalize World.alloc _ _ = W0 at *
  go_upto_region 3 with (first
    | (with_reducible refine wpList_load_rng (ty := 55) (Pt.vals _) (by with_unfolding_all rfl) HB0.out.range Tryd.underlying55 (by with_unfolding_all rfl) (by with_unfolding_all exact info55) ?_)
    | ((with_reducible refine (prioPort_any _ W0).mono ?_)
       rintro e w1 ⟨rfl, hb1⟩
       rw [HK.out]))
  have HB1 := Lib.hid (HB0.out.below hb1 hl0)
  have c0 : w1.cell? ⟨w.heap.size, 0, none⟩ = some (.int .i64 (p : Int)) := HB1.out.cell 0
  have c1 : w1.cell? ⟨w.heap.size, 1, none⟩ = some (.int .i64 (x : Int)) := HB1.out.cell 1
  go_wp2_with (first
    | ((with_reducible refine (HM0.out _).mono ?_)
       rintro e w2 ⟨rfl, hb2⟩
       skip))
  go_ret2
  exact ⟨rfl, (hb0.trans (hb1.mono hb0.size)).trans (hb2.mono (Nat.le_trans hb0.size hb1.size))⟩
end Go.Proofs.YtkicbabfgahmkaaDoor

/- WireOrder, WireParts. -/
import Derived.Test.YtdeaednccdoklaaWired
import Derived.Test.YtdeaednccdoklaaPick
namespace Go.Proofs.Ytdeaednccdoklaa
open Go.RowKit
theorem bytesLess_num : ∀ (a b : List UInt8), a.length = b.length → Op.bytesLess a b = decide (beNum a < beNum b)
  | [], [], _ => by simp [Op.bytesLess, beNum]
  | x :: a, y :: b, h => by
    have hl : a.length = b.length := by simpa using h
    have ih := bytesLess_num a b hl
    have ha := beNum_lt a
    have hb := beNum_lt b
    rw [hl] at ha
    rw [Op.bytesLess, ih, beNum_cons, beNum_cons, hl]
    generalize 256 ^ b.length = k at *
    by_cases h1 : x < y
    · have h1' : x.toNat + 1 ≤ y.toNat := UInt8.lt_iff_toNat_lt.1 h1
      have := Nat.mul_le_mul_right k h1'
      rw [Nat.add_mul] at this
      simp [h1]; omega
    · by_cases h2 : x = y
      · subst h2
        simp
      · have h3 : ¬ x.toNat < y.toNat := fun h => h1 (UInt8.lt_iff_toNat_lt.2 h)
        have h4 : x.toNat ≠ y.toNat := fun h => h2 (UInt8.toNat_inj.1 h)
        have h5 : y.toNat + 1 ≤ x.toNat := by omega
        have := Nat.mul_le_mul_right k h5
        rw [Nat.add_mul] at this
        have e1 : ¬ (x.toNat * k + beNum a < y.toNat * k + beNum b) := by omega
        have e2 : (x == y) = false := by simpa using h2
        rw [e2, decide_eq_false e1]
        simp [h1]
theorem wf_u64 {a : Int} (h : (Lit.int .u64 a).wf = true) : 0 ≤ a ∧ a < 18446744073709551616 := by
  have e1 : IntKind.u64.min = 0 := by rfl
  have e2 : IntKind.u64.max = 18446744073709551615 := by rfl
  simp [Lit.wf] at h; omega
theorem wf_i64 {a : Int} (h : (Lit.int .i64 a).wf = true) : -9223372036854775808 ≤ a ∧ a ≤ 9223372036854775807 := by
  have e1 : IntKind.i64.min = -9223372036854775808 := by rfl
  have e2 : IntKind.i64.max = 9223372036854775807 := by rfl
  simp [Lit.wf] at h; omega
def putE (x n : Nat) : Value := if x < 256 ^ n then .nilIface else .iface 45 (.int .i64 12)
def putS (x n : Nat) : List UInt8 := if x < 256 ^ n then beBytes x n else []
theorem put_any (x n : Nat) (hx64 : x < 18446744073709551616) (h1 : 1 ≤ n) (h8 : n ≤ 8) (w : World) :
    Calls Try.prog 15 #[.int .u64 (x : Int), .int .i64 (n : Int)] w fun e w' => e = .returned (.tuple #[.string ⟨(putS x n).toArray⟩, putE x n]) ∧ Below w.heap.size w w' := by
  unfold putS putE
  by_cases h : x < 256 ^ n
  · rw [if_pos h, if_pos h]; exact put_ok x n hx64 h1 h8 h w
  · rw [if_neg h, if_neg h]
    have h8' : n < 8 := by
      rcases Nat.lt_or_ge n 8 with h' | h'
      · exact h'
      · exfalso; apply h
        have : n = 8 := by omega
        subst this; omega
    refine put_full x n h1 h8' ?_ w
    intro h0
    apply h
    rw [show (256 : Nat) ^ n = 2 ^ (8 * n) by rw [Nat.pow_mul]]
    exact (Nat.div_eq_zero_iff_lt (Nat.two_pow_pos _)).1 h0
set_option maxHeartbeats 1000000 in
theorem law_WireOrder (x y n : Int) (hx : (Lit.int .u64 x).wf = true) (hy : (Lit.int .u64 y).wf = true) (hn : (Lit.int .i64 n).wf = true) (w : World) :
    Calls Try.prog 7 #[.int .u64 x, .int .u64 y, .int .i64 n] w fun e w' => e = .returned (.bool true) ∧ Below w.heap.size w w' := by
  have hx := wf_u64 hx
  have hy := wf_u64 hy
  clear hn
  obtain ⟨x, rfl⟩ := Int.eq_ofNat_of_zero_le hx.1
  obtain ⟨y, rfl⟩ := Int.eq_ofNat_of_zero_le hy.1
  have hx : x < 18446744073709551616 := by omega
  have hy : y < 18446744073709551616 := by omega
  have hk := pickN_lt n 8 (by decide)
  generalize hp : pickN n 8 = k at hk
  have Hp := Lib.hid hp
  clear hp
  have key : putE x (1 + k) = .nilIface ∧ putE y (1 + k) = .nilIface → (Op.bytesLess (putS x (1 + k)) (putS y (1 + k)) = decide (x < y)) ∧ ((putS x (1 + k) == putS y (1 + k)) = decide (x = y)) := by
    intro ⟨a1, a2⟩
    have h1 : x < 256 ^ (1 + k) := by
      unfold putE at a1; split at a1
      · assumption
      · cases a1
    have h2 : y < 256 ^ (1 + k) := by
      unfold putE at a2; split at a2
      · assumption
      · cases a2
    unfold putS
    rw [if_pos h1, if_pos h2]
    have hless := bytesLess_num (beBytes x (1 + k)) (beBytes y (1 + k)) (by simp [beBytes_len])
    rw [beNum_beBytes _ _ h1, beNum_beBytes _ _ h2] at hless
    refine ⟨hless, ?_⟩
    by_cases e : x = y
    · subst e; simp
    · rw [decide_eq_false e]
      simp only [beq_eq_false_iff_ne, ne_eq]
      intro h; apply e
      rw [← beNum_beBytes _ _ h1, ← beNum_beBytes _ _ h2, h]
  have ex : putE x (1 + k) = .nilIface ∨ putE x (1 + k) = .iface 45 (.int .i64 12) := by unfold putE; split <;> simp
  have ey : putE y (1 + k) = .nilIface ∨ putE y (1 + k) = .iface 45 (.int .i64 12) := by unfold putE; split <;> simp
  have c1 := put_any x (1 + k) hx (by omega) (by omega)
  have c2 := put_any y (1 + k) hy (by omega) (by omega)
  generalize putE x (1 + k) = ea at key ex c1
  generalize putE y (1 + k) = eb at key ey c2
  generalize putS x (1 + k) = sa at key c1
  generalize putS y (1 + k) = sb at key c2
  have C1 := Lib.hid c1
  have C2 := Lib.hid c2
  have Key := Lib.hid key
  clear c1 c2 key
  rcases ex with rfl | rfl <;> rcases ey with rfl | rfl
  case inl.inl =>
    obtain ⟨k1, k2⟩ := Key.out ⟨rfl, rfl⟩
    have K1 := Lib.hid k1
    have K2 := Lib.hid k2
    clear k1 k2
    go_enter Try.func7, Try.ntmps7
    go_wp2_with fail
    refine (wired_any _).mono ?_
    rintro e w1 ⟨rfl, hb1⟩
    go_wp2_with fail
    refine (pick_any n 8 _ (by decide) (by decide)).mono ?_
    rintro e w' ⟨rfl, rfl⟩
    rw [Hp.out]
    go_wp2_with fail
    rw [show (1 + (k : Int)) = ((1 + k : Nat) : Int) by omega]
    refine (C1.out _).mono ?_
    rintro e w2 ⟨rfl, hb2⟩
    go_wp2_with fail
    rw [show (1 + (k : Int)) = ((1 + k : Nat) : Int) by omega]
    refine (C2.out _).mono ?_
    rintro e w3 ⟨rfl, hb3⟩
    have k1 := K1.out
    have k2 := K2.out
    go_wp2_with fail
    go_ret
    have hb12 := hb1.trans (hb2.mono hb1.size)
    refine ⟨?_, hb12.trans (hb3.mono hb12.size)⟩
    show Ending.returned (.bool (decide (x = y) == ((x : Int) == (y : Int)))) = _
    have e3 : ((x : Int) == (y : Int)) = decide (x = y) := by rw [Bool.eq_iff_iff]; simp; omega
    rw [e3]; simp
  all_goals
    go_enter Try.func7, Try.ntmps7
    go_wp2_with fail
    refine (wired_any _).mono ?_
    rintro e w1 ⟨rfl, hb1⟩
    go_wp2_with fail
    refine (pick_any n 8 _ (by decide) (by decide)).mono ?_
    rintro e w' ⟨rfl, rfl⟩
    rw [Hp.out]
    go_wp2_with fail
    rw [show (1 + (k : Int)) = ((1 + k : Nat) : Int) by omega]
    refine (C1.out _).mono ?_
    rintro e w2 ⟨rfl, hb2⟩
    go_wp2_with fail
    rw [show (1 + (k : Int)) = ((1 + k : Nat) : Int) by omega]
    refine (C2.out _).mono ?_
    rintro e w3 ⟨rfl, hb3⟩
    go_wp2_with fail
    go_ret
    have hb12 := hb1.trans (hb2.mono hb1.size)
    exact ⟨rfl, hb12.trans (hb3.mono hb12.size)⟩
set_option maxRecDepth 100000 in
set_option maxHeartbeats 1000000 in
theorem law_WireParts (s : List UInt8) (n m : Int) (hs : s.length ≤ 9223372036854775807) (hn : (Lit.int .i64 n).wf = true) (hm : (Lit.int .i64 m).wf = true) (w : World) :
    Calls Try.prog 8 #[.string ⟨s.toArray⟩, .int .i64 n, .int .i64 m] w fun e w' => e = .returned (.bool true) ∧ Below w.heap.size w w' := by
  clear hn hm
  by_cases h2 : s.length ≤ 200
  · have p1 := pickN_lt n (s.length + 1) (by omega)
    generalize hp : pickN n (s.length + 1) = k at p1
    have p2 := pickN_lt m (s.length - k + 1) (by omega)
    generalize hq : pickN m (s.length - k + 1) = j at p2
    have Hp := Lib.hid hp
    have Hq := Lib.hid hq
    clear hp hq
    go_enter Try.func8, Try.ntmps8
    go_wp2_with fail
    refine (wired_any _).mono ?_
    rintro e w1 ⟨rfl, hb1⟩
    go_wp2_with fail
    rw [show ((s.length : Int) + 1) = ((s.length + 1 : Nat) : Int) by omega]
    refine (pick_any n (s.length + 1) _ (by omega) (by omega)).mono ?_
    rintro e w' ⟨rfl, rfl⟩
    rw [Hp.out]
    go_wp2_with fail
    rw [show ((s.length : Int) - (k : Int) + 1) = ((s.length - k + 1 : Nat) : Int) by omega]
    refine (pick_any m (s.length - k + 1) _ (by omega) (by omega)).mono ?_
    rintro e w' ⟨rfl, rfl⟩
    rw [Hq.out]
    go_wp2_with fail
    refine (new_any s 0 _).mono ?_
    rintro e w2 ⟨rfl, ra2, hb2, hlt2⟩
    have Ra2 := Lib.hid ra2
    go_wp2_with fail
    refine (new_any s 0 _).mono ?_
    rintro e w3 ⟨rfl, rb3, hb3, hlt3⟩
    have Ra3 := Lib.hid (ra2.keep hb3)
    have Rb3 := Lib.hid rb3
    clear ra2 rb3
    go_wp2_with fail
    refine (bytes_ok Ra3.out k (by omega) (by omega)).mono ?_
    rintro e w4 ⟨rfl, ra4, ua4⟩
    have hne : w2.heap.size ≠ w1.heap.size := by omega
    have Rb4 := Lib.hid (Rb3.out.other ua4 hne)
    have Ra4 := Lib.hid ra4
    clear ra4
    go_wp2_with fail
    refine (bytes_ok Ra4.out j (by omega) (by omega)).mono ?_
    rintro e w5 ⟨rfl, ra5, ua5⟩
    have Rb5 := Lib.hid (Rb4.out.other ua5 hne)
    have Ra5 := Lib.hid ra5
    clear ra5
    go_wp2_with fail
    rw [show ((k : Int) + (j : Int)) = ((k + j : Nat) : Int) by omega]
    refine (bytes_ok Rb5.out (k + j) (by omega) (by omega)).mono ?_
    rintro e w6 ⟨rfl, rb6, ub6⟩
    have Ra6 := Lib.hid (Ra5.out.other ub6 (Ne.symm hne))
    have Rb6 := Lib.hid rb6
    have hX : s.take k ++ (s.drop k).take j = s.take (k + j) := List.take_add.symm
    clear rb6
    go_wp2_with fail
    refine (at_any Ra6.out (by omega)).mono ?_
    rintro e w7 ⟨rfl, hb7⟩
    have Ra7 := Lib.hid (Ra6.out.keep hb7)
    have Rb7 := Lib.hid (Rb6.out.keep hb7)
    go_wp2_with fail
    refine (at_any Rb7.out (by omega)).mono ?_
    rintro e w8 ⟨rfl, hb8⟩
    have Ra8 := Lib.hid (Ra7.out.keep hb8)
    have Rb8 := Lib.hid (Rb7.out.keep hb8)
    go_wp2_with fail
    refine (left_any Ra8.out (by omega) (by omega)).mono ?_
    rintro e w9 ⟨rfl, hb9⟩
    have Ra9 := Lib.hid (Ra8.out.keep hb9)
    have Rb9 := Lib.hid (Rb8.out.keep hb9)
    go_wp2_with fail
    refine (left_any Rb9.out (by omega) (by omega)).mono ?_
    rintro e w10 ⟨rfl, hb10⟩
    have Ra10 := Lib.hid (Ra9.out.keep hb10)
    have Rb10 := Lib.hid (Rb9.out.keep hb10)
    go_wp2_with fail
    refine (err_any Ra10.out).mono ?_
    rintro e w11 ⟨rfl, rfl⟩
    go_wp2_with fail
    refine (err_any Rb10.out).mono ?_
    rintro e w11 ⟨rfl, rfl⟩
    go_wp2_with fail
    go_ret
    have b12 := hb1.trans (hb2.mono hb1.size)
    have b13 := b12.trans (hb3.mono b12.size)
    have b14 := b13.trans (ua4.below hb1.size b13.size)
    have b15 := b14.trans (ua5.below hb1.size b14.size)
    have b16 := b15.trans (ub6.below b12.size b15.size)
    have b17 := b16.trans (hb7.mono b16.size)
    have b18 := b17.trans (hb8.mono b17.size)
    have b19 := b18.trans (hb9.mono b18.size)
    exact ⟨rfl, b19.trans (hb10.mono b19.size)⟩
  · go_enter Try.func8, Try.ntmps8
    go_wp2_with fail
    refine (wired_any _).mono ?_
    rintro e w1 ⟨rfl, hb1⟩
    go_wp2_with fail
    go_ret
    exact ⟨rfl, hb1⟩
end Go.Proofs.Ytdeaednccdoklaa

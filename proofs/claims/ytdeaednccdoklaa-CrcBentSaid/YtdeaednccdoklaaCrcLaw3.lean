/- A burst within 32 bits of a sealed text is told: plain. -/
import Derived.Test.YtdeaednccdoklaaCrcLaw2
namespace Go.Proofs.Ytdeaednccdoklaa
theorem leNum_inj : ∀ (a b : List UInt8), a.length = b.length → leNum a = leNum b → a = b
  | [], [], _, _ => rfl
  | x :: a, y :: b, hl, h => by
    rw [leNum_cons, leNum_cons] at h
    have hx := x.toNat_lt
    have hy := y.toNat_lt
    have h1 : x.toNat = y.toNat := by omega
    have h2 : leNum a = leNum b := by omega
    rw [UInt8.toNat_inj.1 h1, leNum_inj a b (by simpa using hl) h2]
theorem crcBit_zero {x : Nat} (hx : x < 4294967296) (h : crcBit x = 0) : x = 0 := by
  unfold crcBit at h
  split at h
  · have h2 : x / 2 = 3988292384 := by
      have e := congrArg (· ^^^ 3988292384) h
      simp only [Nat.xor_assoc, Nat.xor_self, Nat.xor_zero, Nat.zero_xor] at e
      exact e
    omega
  · omega
theorem crcBits_zero (k : Nat) {x : Nat} (hx : x < 4294967296) (h : crcBits k x = 0) : x = 0 := by
  induction k with
  | zero => exact h
  | succ k ih => exact ih (crcBit_zero (crcBits_lt k hx) h)
theorem crcBits_of_zero (k : Nat) : crcBits k 0 = 0 := by
  induction k with
  | zero => rfl
  | succ k ih => show crcBit (crcBits k 0) = 0; rw [ih]; rfl
theorem crcSeal_split (l : List UInt8) (h : 4 ≤ l.length) (hs : crcSeal (l.take (l.length - 4)) = l) : crcFold l 4294967295 = crcBits 32 4294967295 := by
  have := crcFold_seal (l.take (l.length - 4))
  rw [hs] at this
  exact this
theorem crcSeal_take (s : List UInt8) : crcSeal ((crcSeal s).take ((crcSeal s).length - 4)) = crcSeal s := by
  have ht : (crcSeal s).take ((crcSeal s).length - 4) = s := by
    rw [crcSeal_len]; unfold crcSeal; simp
  rw [ht]
theorem burst (s L : List UInt8) (E at_ : Nat) (hlen : L.length = (crcSeal s).length) (hE : E < 4294967296) (hat : at_ ≤ 8 * L.length) (hN : leNum L = leNum (crcSeal s) ^^^ (E * 2 ^ at_)) :
    (crcSeal (L.take (L.length - 4)) == L) = decide (E = 0) := by
  by_cases h0 : E = 0
  · subst h0
    rw [Nat.zero_mul, Nat.xor_zero] at hN
    have := leNum_inj _ _ hlen hN
    subst this
    rw [crcSeal_take]
    simp
  · rw [decide_eq_false h0]
    simp only [beq_eq_false_iff_ne, ne_eq]
    intro hs
    have h4 : 4 ≤ L.length := by rw [hlen, crcSeal_len]; omega
    have h1 := crcSeal_split L h4 hs
    have h2 := crcFold_seal s
    rw [crcFold_num, hN, hlen] at h1
    rw [crcFold_num] at h2
    rw [← Nat.xor_assoc, crcBits_xor, h2] at h1
    have h3 : crcBits (8 * (crcSeal s).length) (E * 2 ^ at_) = 0 := by
      have e := congrArg (crcBits 32 4294967295 ^^^ ·) h1
      simp only [← Nat.xor_assoc, Nat.xor_self, Nat.zero_xor] at e
      exact e
    have h5 : 8 * (crcSeal s).length = (8 * (crcSeal s).length - at_) + at_ := by omega
    rw [h5, crcBits_add, crcBits_shift] at h3
    exact h0 (crcBits_zero _ hE h3)
theorem mul_xor256 (x y : Nat) : 256 * (x ^^^ y) = (256 * x) ^^^ (256 * y) := by
  have := Nat.shiftLeft_xor_distrib (a := x) (b := y) (i := 8)
  simp only [Nat.shiftLeft_eq] at this
  have e : (2 : Nat) ^ 8 = 256 := rfl
  rw [e] at this
  rw [Nat.mul_comm, this, Nat.mul_comm x, Nat.mul_comm y]
theorem leNum_set : ∀ (L : List UInt8) (j : Nat) (h : j < L.length) (v : UInt8), leNum (L.set j (L[j] ^^^ v)) = leNum L ^^^ (v.toNat * 256 ^ j)
  | b :: L, 0, h, v => by
    simp only [List.set_cons_zero, List.getElem_cons_zero, leNum, UInt8.toNat_xor, Nat.pow_zero, Nat.mul_one]
    ac_rfl
  | b :: L, j + 1, h, v => by
    have := leNum_set L j (by simpa using h) v
    simp only [List.set_cons_succ, List.getElem_cons_succ, leNum, this, mul_xor256]
    rw [Nat.pow_succ, show 256 * (v.toNat * 256 ^ j) = v.toNat * (256 ^ j * 256) by ac_rfl, Nat.xor_assoc]
/-- The bits below the k-th, and the k-th. -/
theorem low_bit (bits k : Nat) (h : bits / 2 ^ k % 2 = 1) : bits % 2 ^ (k + 1) = (bits % 2 ^ k) ^^^ 2 ^ k := by
  apply Nat.eq_of_testBit_eq
  intro i
  rw [Nat.testBit_xor, Nat.testBit_mod_two_pow, Nat.testBit_mod_two_pow, Nat.testBit_two_pow]
  have hk : bits.testBit k = true := by
    rw [Nat.testBit_eq_decide_div_mod_eq]; simpa using h
  by_cases h1 : i < k
  · have : ¬ k = i := by omega
    simp [h1, this, show i < k + 1 by omega]
  · by_cases h2 : i = k
    · subst h2; simp [hk]
    · have : ¬ k = i := by omega
      simp [h1, this, show ¬ i < k + 1 by omega]
theorem low_nobit (bits k : Nat) (h : bits / 2 ^ k % 2 = 0) : bits % 2 ^ (k + 1) = bits % 2 ^ k := by
  rw [Nat.pow_succ, Nat.mod_mul, h]; simp
theorem mul_xor_pow (x y k : Nat) : (x ^^^ y) * 2 ^ k = (x * 2 ^ k) ^^^ (y * 2 ^ k) := by
  have := Nat.shiftLeft_xor_distrib (a := x) (b := y) (i := k)
  simpa only [Nat.shiftLeft_eq] using this
/-- One bit more is turned. -/
theorem bent_step (l L : List UInt8) (bits at_ k : Nat) (hN : leNum L = leNum l ^^^ (bits % 2 ^ k * 2 ^ at_)) (h : bits / 2 ^ k % 2 = 1) (hj : (at_ + k) / 8 < L.length) (v : UInt8) (hv : v.toNat = 2 ^ ((at_ + k) % 8)) :
    leNum (L.set ((at_ + k) / 8) (L[(at_ + k) / 8] ^^^ v)) = leNum l ^^^ (bits % 2 ^ (k + 1) * 2 ^ at_) := by
  rw [leNum_set L _ hj v, hN, low_bit bits k h, mul_xor_pow, hv, Nat.xor_assoc]
  congr 2
  rw [show (256 : Nat) = 2 ^ 8 by rfl, ← Nat.pow_mul, ← Nat.pow_add, ← Nat.pow_add]
  congr 1
  omega
theorem low_ne_zero (bits k : Nat) (h : bits / 2 ^ k % 2 = 1) : bits % 2 ^ (k + 1) ≠ 0 := by
  rw [Nat.pow_succ, Nat.mod_mul, h]
  have := Nat.two_pow_pos k
  omega
end Go.Proofs.Ytdeaednccdoklaa

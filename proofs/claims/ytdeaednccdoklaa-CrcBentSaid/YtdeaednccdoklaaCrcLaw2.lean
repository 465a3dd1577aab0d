/- More plain laws of the checksum: the whole text as one number; what is sealed leaves one rest; a burst of 32 bits is told. -/
import Derived.Test.YtdeaednccdoklaaCrcLaw
namespace Go.Proofs.Ytdeaednccdoklaa
/-- A text as one number, the first byte the least. -/
def leNum : List UInt8 → Nat
  | [] => 0
  | b :: l => b.toNat ^^^ (256 * leNum l)
theorem crcBit_double (y : Nat) : crcBit (2 * y) = y := by
  unfold crcBit
  rw [if_neg (by omega)]; omega
theorem crcBits_add (a b c : Nat) : crcBits (a + b) c = crcBits a (crcBits b c) := by
  induction a with
  | zero => simp [crcBits]
  | succ a ih => rw [Nat.succ_add]; show crcBit _ = crcBit _; rw [ih]
theorem crcBits_comm (k c : Nat) : crcBits k (crcBit c) = crcBit (crcBits k c) := by
  have h1 := crcBits_add k 1 c
  have h2 := crcBits_add 1 k c
  rw [Nat.add_comm] at h1
  rw [h2] at h1
  exact h1.symm
theorem crcBits_shift (k y : Nat) : crcBits k (y * 2 ^ k) = y := by
  induction k generalizing y with
  | zero => simp [crcBits]
  | succ k ih =>
    show crcBit (crcBits k _) = y
    rw [← crcBits_comm, show y * 2 ^ (k + 1) = 2 * (y * 2 ^ k) by rw [Nat.pow_succ]; ac_rfl, crcBit_double, ih]
theorem crcFold_num (l : List UInt8) : ∀ c, crcFold l c = crcBits (8 * l.length) (c ^^^ leNum l) := by
  induction l with
  | nil => intro c; simp [crcFold, leNum, crcBits]
  | cons b l ih =>
    intro c
    have e : crcFold (b :: l) c = crcFold l (crcBits 8 (c ^^^ b.toNat)) := rfl
    rw [e, ih, show 8 * (b :: l).length = 8 * l.length + 8 by simp; omega, crcBits_add]
    congr 1
    have h8 : crcBits 8 (leNum l * 2 ^ 8) = leNum l := crcBits_shift 8 _
    have hx := crcBits_xor 8 (c ^^^ b.toNat) (leNum l * 2 ^ 8)
    rw [h8] at hx
    rw [← hx, leNum, ← Nat.xor_assoc, Nat.mul_comm 256]
theorem xor_join (b m : Nat) (h : b < 256) : b ^^^ (256 * m) = b + 256 * m := by
  apply Nat.eq_of_testBit_eq
  intro i
  rw [Nat.testBit_xor, Nat.add_comm, show 256 = 2 ^ 8 by rfl, Nat.testBit_two_pow_mul_add m (by omega) i, Nat.testBit_two_pow_mul]
  by_cases hi : i < 8
  · have : ¬ (8 ≤ i) := by omega
    simp [hi, this]
  · have h8 : 8 ≤ i := by omega
    have hb : b.testBit i = false := Nat.testBit_lt_two_pow (Nat.lt_of_lt_of_le h (by exact Nat.pow_le_pow_right (n := 2) (by decide) h8))
    simp [hi, h8, hb]
theorem leNum_cons (b : UInt8) (l : List UInt8) : leNum (b :: l) = b.toNat + 256 * leNum l := xor_join _ _ b.toNat_lt
theorem leNum_nil : leNum [] = 0 := rfl
theorem leNum_lt : ∀ (l : List UInt8), leNum l < 256 ^ l.length
  | [] => by simp [leNum]
  | b :: l => by
    have := leNum_lt l
    have hb := b.toNat_lt
    rw [leNum_cons, List.length_cons, Nat.pow_succ]
    omega
def le4 (n : Nat) : List UInt8 := [UInt8.ofNat (n % 256), UInt8.ofNat (n / 256 % 256), UInt8.ofNat (n / 65536 % 256), UInt8.ofNat (n / 16777216)]
def crcSeal (l : List UInt8) : List UInt8 := l ++ le4 (crcSum l)
theorem le4_len (n : Nat) : (le4 n).length = 4 := rfl
theorem crcSeal_len (l : List UInt8) : (crcSeal l).length = l.length + 4 := by unfold crcSeal; rw [List.length_append, le4_len]
theorem leNum_le4 (n : Nat) (h : n < 4294967296) : leNum (le4 n) = n := by
  unfold le4
  simp only [leNum_cons, leNum_nil, UInt8.toNat_ofNat']
  omega
theorem le4_leNum (l : List UInt8) (h : l.length = 4) : le4 (leNum l) = l := by
  match l, h with
  | [a, b, c, d], _ =>
    have ha := a.toNat_lt
    have hb := b.toNat_lt
    have hc := c.toNat_lt
    have hd := d.toNat_lt
    simp only [leNum_cons, leNum_nil, le4]
    have e1 : (a.toNat + 256 * (b.toNat + 256 * (c.toNat + 256 * (d.toNat + 256 * 0)))) % 256 = a.toNat := by omega
    have e2 : (a.toNat + 256 * (b.toNat + 256 * (c.toNat + 256 * (d.toNat + 256 * 0)))) / 256 % 256 = b.toNat := by omega
    have e3 : (a.toNat + 256 * (b.toNat + 256 * (c.toNat + 256 * (d.toNat + 256 * 0)))) / 65536 % 256 = c.toNat := by omega
    have e4 : (a.toNat + 256 * (b.toNat + 256 * (c.toNat + 256 * (d.toNat + 256 * 0)))) / 16777216 = d.toNat := by omega
    rw [e1, e2, e3, e4]
    simp
theorem crcFold_sealed (t u : List UInt8) (hu : u.length = 4) (h : leNum u = crcSum t) : crcFold (t ++ u) 4294967295 = crcBits 32 4294967295 := by
  rw [crcFold_append, crcFold_num u, hu, h]
  unfold crcSum
  rw [← Nat.xor_assoc, Nat.xor_self, Nat.zero_xor]
theorem crcFold_seal (l : List UInt8) : crcFold (crcSeal l) 4294967295 = crcBits 32 4294967295 :=
  crcFold_sealed l _ (le4_len _) (leNum_le4 _ (crcSum_lt l))
theorem rest_known : crcBits 32 4294967295 ^^^ 4294967295 = 558161692 := by decide +kernel
/-- The rest of every sealed text. -/
theorem crcSum_seal (l : List UInt8) : crcSum (crcSeal l) = 558161692 := by
  unfold crcSum
  rw [crcFold_seal, rest_known]
/-- Three texts of one length. -/
theorem leNum_xor3 : ∀ (a b c : List UInt8), a.length = b.length → b.length = c.length →
    leNum (List.zipWith (· ^^^ ·) (List.zipWith (· ^^^ ·) a b) c) = leNum a ^^^ leNum b ^^^ leNum c
  | [], [], [], _, _ => by simp [leNum]
  | x :: a, y :: b, z :: c, h1, h2 => by
    have := leNum_xor3 a b c (by simpa using h1) (by simpa using h2)
    simp only [List.zipWith_cons_cons, leNum, UInt8.toNat_xor, this]
    rw [show 256 * (leNum a ^^^ leNum b ^^^ leNum c) = (256 * leNum a) ^^^ (256 * leNum b) ^^^ (256 * leNum c) by
      have h : ∀ x y : Nat, 256 * (x ^^^ y) = (256 * x) ^^^ (256 * y) := fun x y => by
        have := Nat.shiftLeft_xor_distrib (a := x) (b := y) (i := 8)
        simp only [Nat.shiftLeft_eq] at this
        have e : (2 : Nat) ^ 8 = 256 := rfl
        rw [e] at this
        rw [Nat.mul_comm, this, Nat.mul_comm x, Nat.mul_comm y]
      rw [h, h]]
    ac_rfl
theorem crcSum_xor3 (a b c : List UInt8) (h1 : a.length = b.length) (h2 : b.length = c.length) :
    crcSum (List.zipWith (· ^^^ ·) (List.zipWith (· ^^^ ·) a b) c) = crcSum a ^^^ crcSum b ^^^ crcSum c := by
  unfold crcSum
  have hl : (List.zipWith (· ^^^ ·) (List.zipWith (· ^^^ ·) a b) c).length = a.length := by simp; omega
  rw [crcFold_num, crcFold_num a, crcFold_num b, crcFold_num c, hl, ← h1, ← h2, ← h1, leNum_xor3 a b c h1 h2]
  simp only [crcBits_xor]
  generalize crcBits (8 * a.length) 4294967295 = k
  generalize crcBits (8 * a.length) (leNum a) = x
  generalize crcBits (8 * a.length) (leNum b) = y
  generalize crcBits (8 * a.length) (leNum c) = z
  generalize (4294967295 : Nat) = f
  have e : (k ^^^ x ^^^ f) ^^^ (k ^^^ y ^^^ f) ^^^ (k ^^^ z ^^^ f) = ((k ^^^ k) ^^^ (f ^^^ f)) ^^^ (k ^^^ (x ^^^ y ^^^ z) ^^^ f) := by ac_rfl
  rw [e]; simp
end Go.Proofs.Ytdeaednccdoklaa

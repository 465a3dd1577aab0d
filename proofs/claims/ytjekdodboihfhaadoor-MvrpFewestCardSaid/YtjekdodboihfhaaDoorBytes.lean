/- Numbers as bytes: plain. -/
import Derived.Handy
set_option linter.all false
namespace Go.Proofs.YtjekdodboihfhaaDoor
/-- The number of some bytes, the greatest first. -/
def beNum (l : List UInt8) : Nat := l.foldl (fun x c => 256 * x + c.toNat) 0
theorem beNum_snoc (l : List UInt8) (c : UInt8) : beNum (l ++ [c]) = 256 * beNum l + c.toNat := by simp [beNum]
theorem beNum_nil : beNum [] = 0 := rfl
theorem beNum_from (l : List UInt8) : ∀ x, l.foldl (fun x c => 256 * x + c.toNat) x = x * 256 ^ l.length + beNum l := by
  induction l with
  | nil => intro x; simp [beNum]
  | cons c l ih =>
    intro x
    simp only [List.foldl_cons, List.length_cons, beNum]
    rw [ih, ih (256 * 0 + c.toNat), Nat.pow_succ, Nat.add_mul]
    rw [show 256 * x * 256 ^ l.length = x * (256 ^ l.length * 256) by ac_rfl, Nat.mul_zero, Nat.zero_add]
    omega
theorem beNum_cons (c : UInt8) (l : List UInt8) : beNum (c :: l) = c.toNat * 256 ^ l.length + beNum l := by
  have := beNum_from l c.toNat
  simpa [beNum] using this
theorem beNum_append (a b : List UInt8) : beNum (a ++ b) = beNum a * 256 ^ b.length + beNum b := by
  rw [← beNum_from]; simp [beNum]
theorem beNum_lt (l : List UInt8) : beNum l < 256 ^ l.length := by
  induction l with
  | nil => simp [beNum]
  | cons c l ih =>
    have hc := c.toNat_lt
    rw [beNum_cons, List.length_cons, Nat.pow_succ]
    calc c.toNat * 256 ^ l.length + beNum l < c.toNat * 256 ^ l.length + 256 ^ l.length := by omega
      _ = (c.toNat + 1) * 256 ^ l.length := by rw [Nat.add_mul]; omega
      _ ≤ 256 * 256 ^ l.length := Nat.mul_le_mul_right _ (by omega)
      _ = 256 ^ l.length * 256 := Nat.mul_comm _ _
/-- A number as n bytes, the greatest first. -/
def beBytes (x n : Nat) : List UInt8 := (List.range n).map fun i => UInt8.ofNat (x / 2 ^ (8 * (n - 1 - i)) % 256)
theorem beBytes_len (x n : Nat) : (beBytes x n).length = n := by simp [beBytes]
theorem beBytes_get (x n i : Nat) (h : i < (beBytes x n).length) : (beBytes x n)[i] = UInt8.ofNat (x / 2 ^ (8 * (n - 1 - i)) % 256) := by simp [beBytes]
theorem beBytes_step (x n k : Nat) (L : List UInt8) (hL : L.length = n) (hk : k < n) (hT : L.drop (n - k) = (beBytes x n).drop (n - k)) :
    (L.set (n - 1 - k) (UInt8.ofNat (x / 2 ^ (8 * k) % 256))).drop (n - (k + 1)) = (beBytes x n).drop (n - (k + 1)) := by
  have e : n - (k + 1) = n - 1 - k := by omega
  have hb := beBytes_len x n
  rw [e, List.drop_eq_getElem_cons (by simp [hL]; omega), List.drop_eq_getElem_cons (l := beBytes x n) (by omega)]
  congr 1
  · rw [List.getElem_set_self, beBytes_get]
    rw [show n - 1 - (n - 1 - k) = k by omega]
  · rw [show n - 1 - k + 1 = n - k by omega, List.drop_set_of_lt (by omega), hT]
theorem beBytes_succ (x n : Nat) : beBytes x (n + 1) = beBytes (x / 256) n ++ [UInt8.ofNat (x % 256)] := by
  apply List.ext_getElem
  · simp [beBytes]
  · intro i h1 h2
    simp only [beBytes_len] at h1
    by_cases hi : i < n
    · rw [beBytes_get, List.getElem_append_left (by simp [beBytes]; omega), beBytes_get]
      congr 2
      rw [Nat.div_div_eq_div_mul]
      congr 1
      rw [show (256 : Nat) = 2 ^ 8 by rfl, ← Nat.pow_add]
      congr 1; omega
    · have : i = n := by omega
      subst this
      rw [beBytes_get, List.getElem_append_right (by simp [beBytes])]
      simp [beBytes]
theorem beNum_beBytes (n : Nat) : ∀ x, x < 256 ^ n → beNum (beBytes x n) = x := by
  induction n with
  | zero => intro x h; simp at h; subst h; rfl
  | succ n ih =>
    intro x h
    rw [beBytes_succ, beNum_snoc, ih (x / 256) (by rw [Nat.pow_succ] at h; omega), UInt8.toNat_ofNat']
    omega
theorem beBytes_beNum_aux : ∀ (n : Nat) (l : List UInt8), l.length = n → beBytes (beNum l) n = l
  | 0, l, h => by
    have : l = [] := List.length_eq_zero_iff.1 h
    subst this; rfl
  | n + 1, l, h => by
    rcases List.eq_nil_or_concat l with rfl | ⟨a, c, rfl⟩
    · simp at h
    · have ha : a.length = n := by simpa using h
      have hc := c.toNat_lt
      rw [List.concat_eq_append, beNum_snoc, beBytes_succ]
      rw [show (256 * beNum a + c.toNat) / 256 = beNum a by omega, show (256 * beNum a + c.toNat) % 256 = c.toNat by omega, beBytes_beNum_aux n a ha]
      simp
theorem beBytes_beNum (l : List UInt8) : beBytes (beNum l) l.length = l := beBytes_beNum_aux _ l rfl
theorem beNum_inj (a b : List UInt8) (hl : a.length = b.length) (h : beNum a = beNum b) : a = b := by
  rw [← beBytes_beNum a, ← beBytes_beNum b, hl, h]
end Go.Proofs.YtjekdodboihfhaaDoor

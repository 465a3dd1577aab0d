/- Tags, as plain data; as texts. No program in sight. (Printed by tools/mktg.py, its second half by hand there.) -/
import Derived.Test.YtkicbabfgahmkaaDoorPrM
import Derived.Test.YtkicbabfgahmkaaDoorBpduM
set_option linter.all false
namespace Go.Proofs.YtkicbabfgahmkaaDoor
structure Tk where
  s : Bool
  pcp : Int
  dei : Bool
  vid : Int
deriving DecidableEq, Inhabited
def Tk.okB (t : Tk) : Bool := decide (0 ≤ t.pcp) && (decide (t.pcp ≤ 7) && (decide (0 ≤ t.vid) && decide (t.vid ≤ 4094)))
theorem Tk.ok_iff {t : Tk} : t.okB = true ↔ 0 ≤ t.pcp ∧ t.pcp ≤ 7 ∧ 0 ≤ t.vid ∧ t.vid ≤ 4094 := by simp [Tk.okB]
def Tk.num (t : Tk) : Nat := t.pcp.toNat * 8192 + bitN t.dei * 4096 + t.vid.toNat
def Tk.kind (t : Tk) : Nat := if t.s then 34984 else 33024
def Tk.bytes (t : Tk) : List UInt8 := beBytes t.kind 2 ++ beBytes t.num 2
def tagb (l : List Tk) : List UInt8 := l.flatMap Tk.bytes
def stackB (l : List Tk) : Bool := match l with
  | [] => true
  | [a] => a.okB
  | [a, b] => a.okB && (b.okB && (a.s && !b.s))
  | _ => false
def unpackM (s : Bool) (n : Nat) : Tk := ⟨s, ((n / 8192 : Nat) : Int), decide (n / 4096 % 2 = 1), ((n % 4096 : Nat) : Int)⟩
theorem Tk.bytes_len (t : Tk) : t.bytes.length = 4 := by simp [Tk.bytes, beBytes_len]
theorem tagb_len (l : List Tk) : (tagb l).length = 4 * l.length := by
  induction l with
  | nil => rfl
  | cons x l ih =>
    simp only [tagb, List.flatMap_cons, List.length_append, Tk.bytes_len, List.length_cons] at ih ⊢
    omega
theorem Tk.num_lt {t : Tk} (h : t.okB = true) : t.num < 65536 := by
  have := Tk.ok_iff.1 h
  have := bitN_lt t.dei
  unfold Tk.num; omega
theorem unpack_num {t : Tk} (h : t.okB = true) : unpackM t.s t.num = t ∧ t.num % 4096 ≠ 4095 := by
  have h1 := Tk.ok_iff.1 h
  have h2 := bitN_lt t.dei
  obtain ⟨s, p, d, v⟩ := t
  simp only [] at h1 h2
  unfold unpackM Tk.num
  simp only []
  refine ⟨?_, by omega⟩
  rw [show (p.toNat * 8192 + bitN d * 4096 + v.toNat) / 8192 = p.toNat by omega,
    show (p.toNat * 8192 + bitN d * 4096 + v.toNat) / 4096 % 2 = bitN d by omega,
    show (p.toNat * 8192 + bitN d * 4096 + v.toNat) % 4096 = v.toNat by omega, bitN_dec]
  rw [show ((p.toNat : Nat) : Int) = p by omega, show ((v.toNat : Nat) : Int) = v by omega]
theorem unpack_ok (s : Bool) {n : Nat} (hn : n < 65536) (h : n % 4096 ≠ 4095) : (unpackM s n).okB = true ∧ (unpackM s n).num = n := by
  refine ⟨?_, ?_⟩
  · rw [Tk.ok_iff]
    unfold unpackM
    simp only []
    omega
  · unfold unpackM Tk.num
    simp only [bitN_of, Int.toNat_natCast]
    omega
theorem stack_len {l : List Tk} (h : stackB l = true) : l.length ≤ 2 := by
  match l, h with
  | [], _ => simp
  | [_], _ => simp
  | [_, _], _ => simp
theorem stack_ok {l : List Tk} (h : stackB l = true) : ∀ t ∈ l, t.okB = true := by
  match l, h with
  | [], _ => simp
  | [a], h => intro t ht; rw [List.mem_singleton.1 ht]; exact h
  | [a, b], h =>
    simp only [stackB, Bool.and_eq_true] at h
    intro t ht
    simp only [List.mem_cons, List.not_mem_nil, or_false] at ht
    rcases ht with rfl | rfl
    · exact h.1
    · exact h.2.1
/-! ### As texts -/
def Tk.text (t : Tk) : List UInt8 := (if t.s then 115 else 99) :: (Lib.decDigits t.pcp.toNat ++ ((if t.dei then [33] else []) ++ 46 :: Lib.decDigits t.vid.toNat))
/-- What the program takes for the tag, before it looks whether its text is the given one. -/
def Tk.raw (h : List UInt8) (n : Int) : Tk := ⟨h.getD 0 0 == 115, (((h.getD 1 0).toNat : Nat) : Int) - 48, h.drop 2 == [33], n⟩
def headOk (h : List UInt8) : Bool := decide (2 ≤ h.length) && (h.getD 0 0 == 115 || h.getD 0 0 == 99)
def Tk.ofText (s : List UInt8) : Option Tk :=
  match Lib.atoiAll (Lib.cut s [46]).2.1 with
  | .ok n => if (Lib.cut s [46]).2.2 = true ∧ headOk (Lib.cut s [46]).1 = true then
      if (Tk.raw (Lib.cut s [46]).1 n).okB = true ∧ (Tk.raw (Lib.cut s [46]).1 n).text = s then some (Tk.raw (Lib.cut s [46]).1 n) else none
    else none
  | _ => none
theorem dec_one (n : Nat) (h : n < 10) : Lib.decDigits n = [UInt8.ofNat (48 + n)] := by rw [Lib.decDigits, dif_pos h]
theorem tk_ofText {t : Tk} (ht : t.okB = true) : Tk.ofText t.text = some t := by
  have ho := Tk.ok_iff.1 ht
  obtain ⟨s, p, d, v⟩ := t
  simp only [] at ho
  obtain ⟨h1, h2, h3, h4⟩ := ho
  have e0 : (Tk.text ⟨s, p, d, v⟩) = ((if s then 115 else 99) :: UInt8.ofNat (48 + p.toNat) :: (if d then [33] else [])) ++ 46 :: Lib.decDigits v.toNat := by
    unfold Tk.text
    rw [dec_one p.toNat (by omega)]
    simp
  have hd : (UInt8.ofNat (48 + p.toNat)).toNat = 48 + p.toNat := digit_nat p.toNat (by omega)
  have c1 : Lib.cut (Tk.text ⟨s, p, d, v⟩) [46] = ((if s then 115 else 99) :: UInt8.ofNat (48 + p.toNat) :: (if d then [33] else []), Lib.decDigits v.toNat, true) := by
    rw [e0]
    refine cut_app 46 _ _ (fun c hc => ?_)
    rcases List.mem_cons.1 hc with h | h
    · cases s <;> (rw [h]; decide)
    · rcases List.mem_cons.1 h with h | h
      · intro e
        rw [e] at h
        rw [← h] at hd
        have : (46 : UInt8).toNat = 46 := rfl
        omega
      · cases d
        · cases h
        · rw [List.mem_singleton.1 h]; decide
  have hr : Tk.raw ((if s then 115 else 99) :: UInt8.ofNat (48 + p.toNat) :: (if d then [33] else [])) ((v.toNat : Nat) : Int) = ⟨s, p, d, v⟩ := by
    unfold Tk.raw
    simp only [List.getD_cons_zero, List.getD_cons_succ, List.drop_succ_cons, List.drop_zero, hd]
    congr 1
    · cases s <;> rfl
    · omega
    · cases d <;> rfl
    · omega
  unfold Tk.ofText
  rw [c1]
  simp only [atoi_dec v.toNat (by omega)]
  rw [hr, if_pos ⟨by trivial, by cases s <;> cases d <;> rfl⟩, if_pos ⟨ht, rfl⟩]
theorem tk_ofText_ok {s : List UInt8} {t : Tk} (h : Tk.ofText s = some t) : t.okB = true ∧ t.text = s := by
  unfold Tk.ofText at h
  split at h
  · split at h
    · split at h
      · rename_i hh
        injection h with h
        subst h
        exact hh
      · cases h
    · cases h
  · cases h
theorem Tk.text_len {t : Tk} (ht : t.okB = true) : t.text.length ≤ 13 := by
  obtain ⟨h1, h2, h3, h4⟩ := Tk.ok_iff.1 ht
  have e1 := dec_len t.pcp.toNat (by omega)
  have e2 := dec_len t.vid.toNat (by omega)
  unfold Tk.text
  cases t.dei <;> simp <;> omega
end Go.Proofs.YtkicbabfgahmkaaDoor

/- Names of bridges as texts, tags as texts: plain. -/
import Derived.Test.YtkicbabfgahmkaaDoorMacM
import Derived.Test.YtkicbabfgahmkaaDoorPrK
import Derived.Lib.ItoaNum
import Derived.Lib.ItoaMem
import Derived.Lib.AtoiAllCases
set_option linter.all false
namespace Go.Proofs.YtkicbabfgahmkaaDoor
/-! ### Decimal numerals -/
theorem parse_snoc (c : UInt8) (v : Nat) (l : List UInt8) : ∀ acc, Lib.parseUint10 acc l = .ok v → Lib.parseUint10 acc (l ++ [c]) = Lib.parseUint10 v [c] := by
  induction l with
  | nil =>
    intro acc h
    simp only [Lib.parseUint10] at h
    injection h with h
    subst h
    rfl
  | cons d l ih =>
    intro acc h
    simp only [List.cons_append, Lib.parseUint10] at h ⊢
    by_cases h1 : 48 ≤ d.toNat ∧ d.toNat ≤ 57
    · rw [if_pos h1] at h ⊢
      by_cases h2 : 1844674407370955162 ≤ acc
      · rw [if_pos h2] at h; cases h
      · rw [if_neg h2] at h ⊢
        by_cases h3 : 18446744073709551616 ≤ acc * 10 + (d.toNat - 48)
        · rw [if_pos h3] at h; cases h
        · rw [if_neg h3] at h ⊢
          exact ih _ h
    · rw [if_neg h1] at h; cases h
theorem digit_nat (k : Nat) (h : k < 10) : (UInt8.ofNat (48 + k)).toNat = 48 + k := by rw [UInt8.toNat_ofNat']; omega
theorem parse_dec : ∀ n : Nat, n < 1000000000000 → Lib.parseUint10 0 (Lib.decDigits n) = .ok n := by
  intro n
  induction n using Nat.strongRecOn with
  | _ n ih =>
    intro hn
    rw [Lib.decDigits]
    by_cases h : n < 10
    · rw [dif_pos h]
      simp only [Lib.parseUint10, digit_nat n h]
      rw [if_pos (by omega), if_neg (by omega), if_neg (by omega)]
      congr 1; omega
    · rw [dif_neg h, parse_snoc _ (n / 10) _ 0 (ih (n / 10) (by omega) (by omega))]
      simp only [Lib.parseUint10, digit_nat (n % 10) (by omega)]
      rw [if_pos (by omega), if_neg (by omega), if_neg (by omega)]
      congr 1; omega
theorem dec_digit (n : Nat) : ∀ c ∈ Lib.decDigits n, 48 ≤ c.toNat ∧ c.toNat ≤ 57 := by
  induction n using Nat.strongRecOn with
  | _ n ih =>
    rw [Lib.decDigits]
    by_cases h : n < 10
    · rw [dif_pos h]
      intro c hc
      rw [List.mem_singleton.1 hc, digit_nat n h]; omega
    · rw [dif_neg h]
      intro c hc
      rcases List.mem_append.1 hc with hc | hc
      · exact ih (n / 10) (by omega) c hc
      · rw [List.mem_singleton.1 hc, digit_nat (n % 10) (by omega)]; omega
theorem dec_ne (n : Nat) : Lib.decDigits n ≠ [] := by
  rw [Lib.decDigits]
  split <;> simp
theorem dec_len (n : Nat) : n < 100000 → (Lib.decDigits n).length ≤ 5 := by
  intro h
  rw [Lib.decDigits]
  by_cases h0 : n < 10
  · rw [dif_pos h0]; simp
  rw [dif_neg h0, List.length_append, Lib.decDigits]
  by_cases h1 : n / 10 < 10
  · rw [dif_pos h1]; simp
  rw [dif_neg h1, List.length_append, Lib.decDigits]
  by_cases h2 : n / 10 / 10 < 10
  · rw [dif_pos h2]; simp
  rw [dif_neg h2, List.length_append, Lib.decDigits]
  by_cases h3 : n / 10 / 10 / 10 < 10
  · rw [dif_pos h3]; simp
  rw [dif_neg h3, List.length_append, Lib.decDigits, dif_pos (by omega)]
  simp
theorem atoi_dec (n : Nat) (h : n < 1000000000000) : Lib.atoiAll (Lib.decDigits n) = .ok (n : Int) := by
  have hp := parse_dec n h
  have hd := dec_digit n
  have hne := dec_ne n
  cases hl : Lib.decDigits n with
  | nil => exact absurd hl hne
  | cons c r =>
    rw [hl] at hp hd
    have hc := hd c (by simp)
    rw [Lib.atoiAll_plain c r (by omega) (by omega)]
    unfold Lib.parseMag
    rw [if_neg (by simp), hp]
    unfold Lib.signless
    simp only
    rw [if_neg (by omega)]
/-! ### Cuts -/
theorem index_app (c : UInt8) (x r : List UInt8) (h : ∀ d ∈ x, d ≠ c) : Lib.index (x ++ c :: r) [c] = (x.length : Int) := by
  induction x with
  | nil => unfold Lib.index; simp [List.isPrefixOf]
  | cons d x ih =>
    have hd := h d (by simp)
    have := ih (fun e he => h e (by simp [he]))
    rw [List.cons_append, Lib.index, this]
    have h1 : ([c] : List UInt8).isPrefixOf (d :: (x ++ c :: r)) = false := by simp [List.isPrefixOf, Ne.symm hd]
    have h2 : ((x.length : Int) == -1) = false := by rw [beq_eq_false_iff_ne]; omega
    rw [h1, h2]
    simp
theorem cut_app (c : UInt8) (x r : List UInt8) (h : ∀ d ∈ x, d ≠ c) : Lib.cut (x ++ c :: r) [c] = (x, r, true) := by
  unfold Lib.cut
  rw [index_app c x r h, if_pos (by omega)]
  simp
/-! ### Names of bridges -/
def Br.text (b : Br) : List UInt8 := Lib.decDigits b.prio.toNat ++ 46 :: (Lib.decDigits b.ext.toNat ++ 47 :: b.ad.text)
def Br.ofText (s : List UInt8) : Option Br :=
  match Ad.ofText (Lib.cut s [47]).2.1, Lib.atoiAll (Lib.cut (Lib.cut s [47]).1 [46]).1, Lib.atoiAll (Lib.cut (Lib.cut s [47]).1 [46]).2.1 with
  | some ad, .ok p, .ok e => if (Br.mk p e ad).okB = true ∧ (Br.mk p e ad).text = s then some ⟨p, e, ad⟩ else none
  | _, _, _ => none
theorem br_ofText {b : Br} (hb : b.okB = true) : Br.ofText b.text = some b := by
  have ho := hb
  simp only [Br.okB, Bool.and_eq_true, decide_eq_true_eq] at ho
  obtain ⟨h1, h2, _, h4, h5⟩ := ho
  have e1 : b.text = (Lib.decDigits b.prio.toNat ++ 46 :: Lib.decDigits b.ext.toNat) ++ 47 :: b.ad.text := by simp [Br.text]
  have c1 : Lib.cut b.text [47] = (Lib.decDigits b.prio.toNat ++ 46 :: Lib.decDigits b.ext.toNat, b.ad.text, true) := by
    rw [e1]
    refine cut_app 47 _ _ (fun d hd => ?_)
    rcases List.mem_append.1 hd with h | h
    · have := dec_digit _ d h; rintro rfl; simp at this
    · rcases List.mem_cons.1 h with rfl | h
      · decide
      · have := dec_digit _ d h; rintro rfl; simp at this
  have c2 : Lib.cut (Lib.decDigits b.prio.toNat ++ 46 :: Lib.decDigits b.ext.toNat) [46] = (Lib.decDigits b.prio.toNat, Lib.decDigits b.ext.toNat, true) := cut_app 46 _ _ (fun d hd => by
    have := dec_digit _ d hd; rintro rfl; simp at this)
  unfold Br.ofText
  rw [c1]
  simp only [c2, ofText_text, atoi_dec b.prio.toNat (by omega), atoi_dec b.ext.toNat (by omega)]
  have e3 : Br.mk (b.prio.toNat : Int) (b.ext.toNat : Int) b.ad = b := by
    cases b
    simp only at h1 h4 ⊢
    congr 1 <;> omega
  rw [e3, if_pos ⟨hb, rfl⟩]
theorem br_ofText_ok {s : List UInt8} {b : Br} (h : Br.ofText s = some b) : b.okB = true ∧ b.text = s := by
  unfold Br.ofText at h
  split at h
  · split at h
    · rename_i hh
      injection h with h
      subst h
      exact hh
    · cases h
  · cases h
/-! ### The order -/
theorem vec_line (a b c : Vec) : (((better a b != better b a) == (a != b)) && (!(better a b && better b a)) && (!better a b || !better b c || better a c)) = true := by
  cases h1 : better a b
  · cases h2 : better b a
    · have := better_total h1 h2
      subst this
      simp
    · have hne : a ≠ b := fun e => by subst e; rw [h1] at h2; cases h2
      simp [hne]
  · have h2 := better_asymm h1
    have hne : a ≠ b := fun e => by subst e; rw [h1] at h2; cases h2
    cases h3 : better b c
    · simp [h2, hne]
    · have := better_trans h1 h3
      simp [h2, hne, this]
def brLess (a b : Br) : Bool := decide (lexI a.key b.key < 0)
theorem better_root {a b : Vec} (h : a.root ≠ b.root) : better a b = brLess a.root b.root := by
  unfold better brLess Vec.key
  have h0 : ¬ lexI a.root.key b.root.key = 0 := fun e => h (Br.inj (lexI_zero e))
  rw [lexI_append (a := a.root.key) (a' := b.root.key) _ _ rfl, if_neg h0]
theorem better_cost {a b : Vec} (h : a.root = b.root) (hc : a.cost ≠ b.cost) : better a b = decide (a.cost < b.cost) := by
  unfold better Vec.key
  rw [lexI_append (a := a.root.key) (a' := b.root.key) _ _ rfl, h, lexI_refl, if_pos rfl]
  simp only [lexI]
  by_cases h1 : a.cost < b.cost
  · simp [h1]
  · have : b.cost < a.cost := by omega
    simp [h1, this]
end Go.Proofs.YtkicbabfgahmkaaDoor

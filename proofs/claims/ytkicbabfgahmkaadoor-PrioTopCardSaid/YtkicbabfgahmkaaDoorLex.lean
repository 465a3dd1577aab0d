/- Names, vectors, nets, as plain data; the order of key lists. No program in sight. -/
import Derived.Test.YtkicbabfgahmkaaDoorNet
set_option linter.all false
namespace Go.Proofs.YtkicbabfgahmkaaDoor
/-! ### The order of lists of numbers -/
def cmpI (a b : Int) : Int := if a < b then -1 else if b < a then 1 else 0
def lexI : List Int → List Int → Int
  | [], [] => 0
  | [], _ :: _ => -1
  | _ :: _, [] => 1
  | x :: xs, y :: ys => if x < y then -1 else if y < x then 1 else lexI xs ys
def orI : List Int → Int
  | [] => 0
  | x :: xs => if x = 0 then orI xs else x
theorem lexI_refl (a : List Int) : lexI a a = 0 := by
  induction a with
  | nil => rfl
  | cons x xs ih => simp [lexI, ih]
theorem lexI_range (a b : List Int) : lexI a b = -1 ∨ lexI a b = 0 ∨ lexI a b = 1 := by
  induction a generalizing b with
  | nil => cases b <;> simp [lexI]
  | cons x xs ih =>
    cases b with
    | nil => simp [lexI]
    | cons y ys =>
      unfold lexI
      split
      · simp
      · split
        · simp
        · exact ih ys
theorem lexI_neg (a b : List Int) : lexI a b = - lexI b a := by
  induction a generalizing b with
  | nil => cases b <;> simp [lexI]
  | cons x xs ih =>
    cases b with
    | nil => simp [lexI]
    | cons y ys =>
      unfold lexI
      rw [ih ys]
      by_cases h1 : x < y
      · rw [if_pos h1, if_neg (show ¬ y < x by omega), if_pos h1]
      · by_cases h2 : y < x
        · simp [h1, h2]
        · simp [h1, h2]
theorem lexI_zero {a b : List Int} (h : lexI a b = 0) : a = b := by
  induction a generalizing b with
  | nil => cases b <;> simp_all [lexI]
  | cons x xs ih =>
    cases b with
    | nil => simp [lexI] at h
    | cons y ys =>
      unfold lexI at h
      split at h
      · simp at h
      · split at h
        · simp at h
        · rw [ih h, show x = y by omega]
theorem lexI_trans {a b c : List Int} (h : lexI a b < 0) (k : lexI b c < 0) : lexI a c < 0 := by
  induction a generalizing b c with
  | nil =>
    cases b with
    | nil => simp [lexI] at h
    | cons y ys =>
      cases c with
      | nil => simp [lexI] at k
      | cons z zs => simp [lexI]
  | cons x xs ih =>
    cases b with
    | nil => simp [lexI] at h
    | cons y ys =>
      cases c with
      | nil => simp [lexI] at k
      | cons z zs =>
        unfold lexI at h k ⊢
        by_cases h1 : x < y
        · by_cases k1 : y < z
          · rw [if_pos (by omega)]; omega
          · rw [if_neg k1] at k
            by_cases k2 : z < y
            · rw [if_pos k2] at k; omega
            · rw [if_pos (by omega)]; omega
        · rw [if_neg h1] at h
          by_cases h2 : y < x
          · rw [if_pos h2] at h; omega
          · rw [if_neg h2] at h
            by_cases k1 : y < z
            · rw [if_pos (by omega)]; omega
            · rw [if_neg k1] at k
              by_cases k2 : z < y
              · rw [if_pos k2] at k; omega
              · rw [if_neg k2] at k
                rw [if_neg (by omega), if_neg (by omega)]
                exact ih h k
theorem lexI_append : ∀ {a a' : List Int} (b b' : List Int), a.length = a'.length → lexI (a ++ b) (a' ++ b') = if lexI a a' = 0 then lexI b b' else lexI a a'
  | [], [], b, b', _ => by simp [lexI]
  | x :: xs, y :: ys, b, b', h => by
    have ih := lexI_append (a := xs) (a' := ys) b b' (by simpa using h)
    simp only [List.cons_append, lexI]
    by_cases h1 : x < y
    · simp [h1]
    · by_cases h2 : y < x
      · simp [h1, h2]
      · simp only [h1, h2, if_false]; exact ih
/-- A list of digits as one number. -/
def packI (l : List Int) : Nat := l.foldl (fun a d => a * 4294967296 + d.toNat) 0
def Digits (l : List Int) : Prop := ∀ d ∈ l, 0 ≤ d ∧ d < 4294967296
theorem packI_aux (l : List Int) : ∀ a, l.foldl (fun a d => a * 4294967296 + d.toNat) a = a * 4294967296 ^ l.length + packI l := by
  induction l with
  | nil => intro a; simp [packI]
  | cons x xs ih =>
    intro a
    unfold packI
    simp only [List.foldl_cons, List.length_cons]
    rw [ih, ih (0 * 4294967296 + x.toNat), Nat.pow_succ, Nat.zero_mul, Nat.zero_add, Nat.add_mul, Nat.mul_assoc a, Nat.mul_comm 4294967296 (4294967296 ^ xs.length)]
    omega
theorem packI_cons (x : Int) (xs : List Int) : packI (x :: xs) = x.toNat * 4294967296 ^ xs.length + packI xs := by
  rw [← packI_aux xs x.toNat]
  show List.foldl _ (0 * 4294967296 + x.toNat) xs = _
  rw [Nat.zero_mul, Nat.zero_add]
theorem packI_lt {l : List Int} (h : Digits l) : packI l < 4294967296 ^ l.length := by
  induction l with
  | nil => simp [packI]
  | cons x xs ih =>
    have h1 := ih (fun d hd => h d (List.mem_cons_of_mem _ hd))
    have h2 := h x (List.mem_cons_self ..)
    rw [packI_cons, List.length_cons, Nat.pow_succ]
    have h3 : x.toNat ≤ 4294967295 := by omega
    have h4 := Nat.mul_le_mul_right (4294967296 ^ xs.length) h3
    omega
theorem lexI_pack : ∀ {a b : List Int}, Digits a → Digits b → a.length = b.length → (lexI a b < 0 ↔ packI a < packI b)
  | [], [], _, _, _ => by simp [lexI, packI]
  | x :: xs, y :: ys, ha, hb, h => by
    have h0 : xs.length = ys.length := by simpa using h
    have ih := lexI_pack (a := xs) (b := ys) (fun d hd => ha d (List.mem_cons_of_mem _ hd)) (fun d hd => hb d (List.mem_cons_of_mem _ hd)) h0
    have h1 := packI_lt (l := xs) (fun d hd => ha d (List.mem_cons_of_mem _ hd))
    have h2 := packI_lt (l := ys) (fun d hd => hb d (List.mem_cons_of_mem _ hd))
    have hx := ha x (List.mem_cons_self ..)
    have hy := hb y (List.mem_cons_self ..)
    rw [packI_cons, packI_cons, h0]
    rw [h0] at h1
    generalize 4294967296 ^ ys.length = P at *
    unfold lexI
    by_cases c1 : x < y
    · rw [if_pos c1]
      have : (x.toNat + 1) * P ≤ y.toNat * P := Nat.mul_le_mul_right _ (by omega)
      rw [Nat.add_mul] at this
      constructor <;> intro _ <;> omega
    · rw [if_neg c1]
      by_cases c2 : y < x
      · rw [if_pos c2]
        have : (y.toNat + 1) * P ≤ x.toNat * P := Nat.mul_le_mul_right _ (by omega)
        rw [Nat.add_mul] at this
        constructor <;> intro _ <;> omega
      · rw [if_neg c2, ih, show x = y by omega]
        omega
theorem packI_inj {a b : List Int} (ha : Digits a) (hb : Digits b) (h : a.length = b.length) (hp : packI a = packI b) : a = b := by
  have h1 := lexI_pack ha hb h
  have h2 := lexI_pack hb ha h.symm
  have h3 := lexI_neg a b
  have h4 := lexI_range a b
  apply lexI_zero
  omega
end Go.Proofs.YtkicbabfgahmkaaDoor

/- Regions, as plain data: which VID is of which instance. No program in sight. -/
import Derived.Test.YtjekdodboihfhaaMdM
set_option linter.all false
namespace Go.Proofs.Ytjekdodboihfhaa
structure Sp where
  lo : Int
  hi : Int
  inst : Int
deriving DecidableEq, Inhabited
def Sp.okB (last : Int) (x : Sp) : Bool := decide (last < x.lo) && (decide (x.lo ≤ x.hi) && (decide (x.hi ≤ 4094) && (decide (0 ≤ x.inst) && decide (x.inst ≤ 64))))
def rightF : Int → List Sp → Bool
  | _, [] => true
  | last, x :: r => x.okB last && rightF x.hi r
def instM : List Sp → Int → Int
  | [], _ => 0
  | x :: r, v => if x.lo ≤ v ∧ v ≤ x.hi then x.inst else instM r v
theorem Sp.ok_iff {last : Int} {x : Sp} : x.okB last = true ↔ last < x.lo ∧ x.lo ≤ x.hi ∧ x.hi ≤ 4094 ∧ 0 ≤ x.inst ∧ x.inst ≤ 64 := by
  simp [Sp.okB]
theorem rightF_cons {last : Int} {x : Sp} {r : List Sp} : rightF last (x :: r) = true ↔ x.okB last = true ∧ rightF x.hi r = true := by simp [rightF]
theorem inst_low {last : Int} : ∀ {l : List Sp}, rightF last l = true → ∀ v, v ≤ last → instM l v = 0
  | [], _, _, _ => rfl
  | x :: r, h, v, hv => by
    obtain ⟨h1, h2⟩ := rightF_cons.1 h
    have h1 := Sp.ok_iff.1 h1
    unfold instM
    rw [if_neg (by omega)]
    exact inst_low h2 v (by omega)
theorem inst_high {last : Int} : ∀ {l : List Sp}, rightF last l = true → ∀ v, 4094 < v → instM l v = 0
  | [], _, _, _ => rfl
  | x :: r, h, v, hv => by
    obtain ⟨h1, h2⟩ := rightF_cons.1 h
    have h1 := Sp.ok_iff.1 h1
    unfold instM
    rw [if_neg (by omega)]
    exact inst_high h2 v hv
theorem inst_range {last : Int} : ∀ {l : List Sp}, rightF last l = true → ∀ v, 0 ≤ instM l v ∧ instM l v ≤ 64
  | [], _, _ => ⟨Int.le_refl 0, show (0 : Int) ≤ 64 by decide⟩
  | x :: r, h, v => by
    obtain ⟨h1, h2⟩ := rightF_cons.1 h
    have h1 := Sp.ok_iff.1 h1
    unfold instM
    split
    · omega
    · exact inst_range h2 v
theorem rightF_mono {a b : Int} (hab : b ≤ a) : ∀ {l : List Sp}, rightF a l = true → rightF b l = true
  | [], _ => rfl
  | x :: r, h => by
    obtain ⟨h1, h2⟩ := rightF_cons.1 h
    have h1 := Sp.ok_iff.1 h1
    exact rightF_cons.2 ⟨Sp.ok_iff.2 (by omega), h2⟩
/-! ### The table -/
def tableM (l : List Sp) : List UInt8 := (List.range 4096).flatMap fun (v : Nat) => beBytes (instM l (v : Int)).toNat 2
theorem table_ext {l m : List Sp} (h : ∀ v, instM l v = instM m v) : tableM l = tableM m := by
  unfold tableM
  congr 1
  funext v
  rw [h]
theorem flat2_len {α : Type} (f : α → List UInt8) (h : ∀ a, (f a).length = 2) : ∀ l : List α, (l.flatMap f).length = 2 * l.length
  | [] => rfl
  | a :: l => by
    rw [List.flatMap_cons, List.length_append, h, flat2_len f h l, List.length_cons]; omega
theorem table_len (l : List Sp) : (tableM l).length = 8192 := by
  unfold tableM
  rw [flat2_len _ (fun v => beBytes_len _ _), List.length_range]
theorem flat2_get {α : Type} (f : α → List UInt8) (h : ∀ a, (f a).length = 2) : ∀ (l : List α) (k : Nat) (a : α), l[k]? = some a → (l.flatMap f)[2 * k]? = (f a)[0]? ∧ (l.flatMap f)[2 * k + 1]? = (f a)[1]?
  | [], k, a, hk => by simp at hk
  | x :: l, 0, a, hk => by
    obtain rfl : x = a := by simpa using hk
    rw [List.flatMap_cons]
    have := h x
    rw [List.getElem?_append_left (by omega), List.getElem?_append_left (by omega)]
    exact ⟨rfl, rfl⟩
  | x :: l, k + 1, a, hk => by
    have hk : l[k]? = some a := by simpa using hk
    have ih := flat2_get f h l k a hk
    have := h x
    rw [List.flatMap_cons, List.getElem?_append_right (by omega), List.getElem?_append_right (by omega), show 2 * (k + 1) - (f x).length = 2 * k by omega, show 2 * (k + 1) + 1 - (f x).length = 2 * k + 1 by omega]
    exact ih
theorem be_small (x : Nat) (h : x < 256) : beBytes x 2 = [0, UInt8.ofNat x] := by
  show [UInt8.ofNat (x / 2 ^ 8 % 256), UInt8.ofNat (x / 2 ^ 0 % 256)] = _
  rw [show x / 2 ^ 8 % 256 = 0 by omega, show x / 2 ^ 0 % 256 = x by omega]
  rfl
theorem table_at {l : List Sp} (hl : rightF 0 l = true) (k : Nat) (hk : k < 4096) : (tableM l)[2 * k]? = some 0 ∧ (tableM l)[2 * k + 1]? = some (UInt8.ofNat (instM l k).toNat) := by
  have h := flat2_get (fun (v : Nat) => beBytes (instM l (v : Int)).toNat 2) (fun v => beBytes_len _ _) (List.range 4096) k k (by rw [List.getElem?_range hk])
  have hr := inst_range hl k
  have hb := be_small (instM l k).toNat (by omega)
  unfold tableM
  rw [h.1, h.2, hb]
  exact ⟨rfl, rfl⟩
/-! ### The least -/
def stepL (out : List Sp) (x : Sp) : List Sp :=
  if x.inst = 0 then out
  else match out.getLast? with
    | some y => if y.inst = x.inst ∧ y.hi + 1 = x.lo then out.dropLast ++ [{ y with hi := x.hi }] else out ++ [x]
    | none => out ++ [x]
def leastM (l : List Sp) : List Sp := l.foldl stepL []
theorem inst_cong (o : List Sp) {s t : List Sp} (h : ∀ v, instM s v = instM t v) (v : Int) : instM (o ++ s) v = instM (o ++ t) v := by
  induction o with
  | nil => exact h v
  | cons x o ih =>
    simp only [List.cons_append, instM, ih]
theorem right_cong (o : List Sp) {s t : List Sp} (h : ∀ b, rightF b s = true → rightF b t = true) : ∀ a, rightF a (o ++ s) = true → rightF a (o ++ t) = true := by
  induction o with
  | nil => exact h
  | cons x o ih =>
    intro a hx
    obtain ⟨h1, h2⟩ := rightF_cons.1 hx
    exact rightF_cons.2 ⟨h1, ih _ h2⟩
theorem last_split {o : List Sp} {y : Sp} (h : o.getLast? = some y) : o = o.dropLast ++ [y] := by
  cases o with
  | nil => simp at h
  | cons a r =>
    have hne : a :: r ≠ [] := by simp
    rw [List.getLast?_eq_some_getLast hne] at h
    injection h with h
    rw [← h]
    exact (List.dropLast_concat_getLast hne).symm
theorem step_ok {out r : List Sp} {x : Sp} {a : Int} (h : rightF a (out ++ x :: r) = true) : rightF a (stepL out x ++ r) = true := by
  unfold stepL
  split
  · refine right_cong out (fun b hb => ?_) a h
    obtain ⟨h1, h2⟩ := rightF_cons.1 hb
    have := Sp.ok_iff.1 h1
    exact rightF_mono (by omega) h2
  · split
    · rename_i y hy
      split
      · rename_i hm
        have e := last_split hy
        rw [e, List.append_assoc] at h
        rw [List.append_assoc]
        refine right_cong out.dropLast (fun b hb => ?_) a h
        obtain ⟨h1, h2⟩ := rightF_cons.1 hb
        obtain ⟨h3, h4⟩ := rightF_cons.1 h2
        have h1 := Sp.ok_iff.1 h1
        have h3 := Sp.ok_iff.1 h3
        refine rightF_cons.2 ⟨Sp.ok_iff.2 ?_, h4⟩
        simp only
        omega
      · simpa using h
    · simpa using h
/-- 'b' is where the spans before end. -/
theorem right_last {o s : List Sp} {a : Int} (h : rightF a (o ++ s) = true) : ∃ b, rightF b s = true := by
  induction o generalizing a with
  | nil => exact ⟨a, h⟩
  | cons x o ih => exact ih (rightF_cons.1 h).2
theorem inst_two {y x : Sp} {r : List Sp} {b : Int} (h : rightF b (y :: x :: r) = true) (h1 : y.inst = x.inst) (h2 : y.hi + 1 = x.lo) (v : Int) : instM ({ y with hi := x.hi } :: r) v = instM (y :: x :: r) v := by
  obtain ⟨k1, k2⟩ := rightF_cons.1 h
  obtain ⟨k3, k4⟩ := rightF_cons.1 k2
  have k1 := Sp.ok_iff.1 k1
  have k3 := Sp.ok_iff.1 k3
  simp only [instM]
  by_cases c1 : y.lo ≤ v ∧ v ≤ y.hi
  · rw [if_pos c1, if_pos (by omega)]
  · rw [if_neg c1]
    by_cases c2 : x.lo ≤ v ∧ v ≤ x.hi
    · rw [if_pos c2, if_pos (by omega), h1]
    · rw [if_neg c2, if_neg (by omega)]
theorem step_inst {out r : List Sp} {x : Sp} {a : Int} (h : rightF a (out ++ x :: r) = true) (v : Int) : instM (stepL out x ++ r) v = instM (out ++ x :: r) v := by
  unfold stepL
  split
  · rename_i hz
    obtain ⟨b, hb⟩ := right_last h
    refine inst_cong out (fun v => ?_) v
    simp only [instM]
    split
    · rename_i hv
      rw [hz]
      exact inst_low (rightF_cons.1 hb).2 v hv.2
    · rfl
  · split
    · rename_i y hy
      split
      · rename_i hm
        have e := last_split hy
        rw [e, List.append_assoc] at h
        obtain ⟨b, hb⟩ := right_last h
        have := inst_cong out.dropLast (fun v => inst_two hb hm.1 hm.2 v) v
        have e2 : out.dropLast ++ [{ y with hi := x.hi }] ++ r = out.dropLast ++ { y with hi := x.hi } :: r := by simp
        have e3 : out ++ x :: r = out.dropLast ++ y :: x :: r := by
          conv => lhs; rw [e]
          simp
        rw [e2, e3, ← this]
      · simp
    · simp
theorem fold_ok : ∀ (r out : List Sp) {a : Int}, rightF a (out ++ r) = true → rightF a (r.foldl stepL out) = true ∧ ∀ v, instM (r.foldl stepL out) v = instM (out ++ r) v
  | [], out, a, h => by
    rw [List.append_nil] at h ⊢
    exact ⟨h, fun _ => rfl⟩
  | x :: r, out, a, h => by
    have h1 := step_ok h
    have h2 := step_inst h
    obtain ⟨h3, h4⟩ := fold_ok r (stepL out x) h1
    exact ⟨h3, fun v => (h4 v).trans (h2 v)⟩
theorem least_right {l : List Sp} (h : rightF 0 l = true) : rightF 0 (leastM l) = true := (fold_ok l [] h).1
theorem least_inst {l : List Sp} (h : rightF 0 l = true) (v : Int) : instM (leastM l) v = instM l v := (fold_ok l [] h).2 v
theorem step_len (out : List Sp) (x : Sp) : (stepL out x).length ≤ out.length + 1 := by
  unfold stepL
  split
  · omega
  · split
    · split
      · simp only [List.length_append, List.length_dropLast, List.length_cons, List.length_nil]; omega
      · simp
    · simp
theorem fold_len : ∀ (r out : List Sp), (r.foldl stepL out).length ≤ out.length + r.length
  | [], out => by simp
  | x :: r, out => by
    have h1 := step_len out x
    have h2 := fold_len r (stepL out x)
    simp only [List.foldl_cons, List.length_cons]
    omega
theorem least_len (l : List Sp) : (leastM l).length ≤ l.length := by
  have := fold_len l []
  simpa [leastM] using this
/-- Spans none of which can be joined to the one before. -/
def canF : Option Sp → List Sp → Bool
  | _, [] => true
  | p, x :: r => decide (x.inst ≠ 0) && ((match p with
    | some y => !(decide (y.inst = x.inst) && decide (y.hi + 1 = x.lo))
    | none => true) && canF (some x) r)
theorem can_fold : ∀ (r out : List Sp), canF out.getLast? r = true → r.foldl stepL out = out ++ r
  | [], out, _ => by simp
  | x :: r, out, h => by
    simp only [canF, Bool.and_eq_true, decide_eq_true_eq] at h
    obtain ⟨h1, h2, h3⟩ := h
    have e : stepL out x = out ++ [x] := by
      unfold stepL
      rw [if_neg h1]
      split
      · rename_i y hy
        rw [hy] at h2
        simp only [Bool.not_eq_true', Bool.and_eq_false_iff, decide_eq_false_iff_not] at h2
        rw [if_neg (by rintro ⟨a, b⟩; rcases h2 with h2 | h2 <;> contradiction)]
      · rfl
    rw [List.foldl_cons, e, can_fold r (out ++ [x]) (by simpa using h3)]
    simp
theorem can_app : ∀ (o : List Sp) (p : Option Sp) (s : List Sp), canF p (o ++ s) = (canF p o && canF (if o = [] then p else o.getLast?) s)
  | [], p, s => by simp [canF]
  | x :: o, p, s => by
    have ih := can_app o (some x) s
    simp only [List.cons_append, canF, ih]
    have e : (if o = [] then some x else o.getLast?) = (x :: o).getLast? := by
      cases o with
      | nil => rfl
      | cons a o => simp
    rw [e]
    simp [Bool.and_assoc]
theorem step_can {out : List Sp} (x : Sp) (h : canF none out = true) : canF none (stepL out x) = true := by
  unfold stepL
  split
  · exact h
  · rename_i hx
    split
    · rename_i y hy
      split
      · rename_i hm
        have e := last_split hy
        rw [e, can_app] at h
        rw [can_app]
        simp only [Bool.and_eq_true] at h ⊢
        refine ⟨h.1, ?_⟩
        have h2 := h.2
        simp only [canF, Bool.and_true, Bool.and_eq_true, decide_eq_true_eq] at h2 ⊢
        exact h2
      · rename_i hm
        rw [can_app, h]
        have hne : out ≠ [] := by rintro rfl; simp at hy
        rw [if_neg hne, hy]
        simp only [canF, Bool.true_and, Bool.and_true, Bool.and_eq_true, decide_eq_true_eq]
        refine ⟨hx, ?_⟩
        simp only [Bool.not_eq_true', Bool.and_eq_false_iff, decide_eq_false_iff_not]
        by_cases c : y.inst = x.inst
        · right; exact fun d => hm ⟨c, d⟩
        · left; exact c
    · rename_i hn
      have : out = [] := by simpa using hn
      subst this
      simp [canF, hx]
theorem fold_can : ∀ (r out : List Sp), canF none out = true → canF none (r.foldl stepL out) = true
  | [], _, h => h
  | x :: r, out, h => fold_can r _ (step_can x h)
theorem least_least (l : List Sp) : leastM (leastM l) = leastM l := by
  have h := fold_can l [] rfl
  have := can_fold (leastM l) [] h
  simpa [leastM] using this
/-! ### A span in two -/
theorem inst_cut (o r : List Sp) (x : Sp) (k : Int) (hk : x.lo ≤ k ∧ k < x.hi) (v : Int) : instM (o ++ { x with hi := k } :: ⟨k + 1, x.hi, x.inst⟩ :: r) v = instM (o ++ x :: r) v := by
  refine inst_cong o (fun v => ?_) v
  simp only [instM]
  by_cases c1 : x.lo ≤ v ∧ v ≤ k
  · rw [if_pos c1, if_pos (by omega)]
  · rw [if_neg c1]
    by_cases c2 : k + 1 ≤ v ∧ v ≤ x.hi
    · rw [if_pos c2, if_pos (by omega)]
    · rw [if_neg c2, if_neg (by omega)]
theorem right_cut (o r : List Sp) (x : Sp) (k : Int) (hk : x.lo ≤ k ∧ k < x.hi) {a : Int} (h : rightF a (o ++ x :: r) = true) : rightF a (o ++ { x with hi := k } :: ⟨k + 1, x.hi, x.inst⟩ :: r) = true := by
  refine right_cong o (fun b hb => ?_) a h
  obtain ⟨h1, h2⟩ := rightF_cons.1 hb
  have h1 := Sp.ok_iff.1 h1
  refine rightF_cons.2 ⟨Sp.ok_iff.2 ?_, rightF_cons.2 ⟨Sp.ok_iff.2 ?_, h2⟩⟩
  · simp only; omega
  · simp only; omega
end Go.Proofs.Ytjekdodboihfhaa

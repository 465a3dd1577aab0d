/- Events of VIDs, as plain data: what is written, what is read. No program in sight. -/
import Derived.Test.YtjekdodboihfhaaDoorRsL
set_option linter.all false
namespace Go.Proofs.YtjekdodboihfhaaDoor
structure Av where
  all : Bool
  first : Int
  evs : List Int
deriving DecidableEq, Inhabited
def evOk (e : Int) : Bool := decide (0 ≤ e) && decide (e ≤ 5)
theorem evOk_iff {e : Int} : evOk e = true ↔ 0 ≤ e ∧ e ≤ 5 := by simp [evOk]
def Av.okB (a : Av) : Bool :=
  if a.evs.length = 0 then a.all && (decide (0 ≤ a.first) && decide (a.first ≤ 4094))
  else decide (a.evs.length ≤ 400) && (decide (1 ≤ a.first) && (decide (a.first ≤ 4094) && (decide (a.first + (a.evs.length : Int) - 1 ≤ 4094) && a.evs.all evOk)))
theorem Av.ok_iff {a : Av} : a.okB = true ↔ (a.evs.length = 0 → a.all = true) ∧ 0 ≤ a.first ∧ a.first ≤ 4094 ∧ a.evs.length ≤ 400 ∧ (a.evs.length ≠ 0 → 1 ≤ a.first ∧ a.first + (a.evs.length : Int) - 1 ≤ 4094) ∧ ∀ e ∈ a.evs, evOk e = true := by
  unfold Av.okB
  by_cases h : a.evs.length = 0
  · rw [if_pos h]
    have he : a.evs = [] := List.length_eq_zero_iff.1 h
    simp only [Bool.and_eq_true, decide_eq_true_eq]
    constructor
    · rintro ⟨h1, h2, h3⟩
      exact ⟨fun _ => h1, h2, h3, by omega, fun hn => absurd h hn, by simp [he]⟩
    · rintro ⟨h1, h2, h3, _⟩
      exact ⟨h1 h, h2, h3⟩
  · rw [if_neg h]
    simp only [Bool.and_eq_true, decide_eq_true_eq, List.all_eq_true]
    constructor
    · rintro ⟨h1, h2, h3, h4, h5⟩
      exact ⟨fun hn => absurd hn h, by omega, h3, h1, fun _ => ⟨h2, h4⟩, h5⟩
    · rintro ⟨_, _, h3, h1, h4, h5⟩
      exact ⟨h1, (h4 h).1, h3, (h4 h).2, h5⟩
/-- Three events in a byte. -/
def three (a b c : Int) : List UInt8 := beBytes ((a * 6 + b) * 6 + c).toNat 1
def packE : List Int → List UInt8
  | a :: b :: c :: r => three a b c ++ packE r
  | [a, b] => three a b 0
  | [a] => three a 0 0
  | [] => []
theorem three_len (a b c : Int) : (three a b c).length = 1 := beBytes_len _ 1
theorem packE_len : ∀ es : List Int, (packE es).length = (es.length + 2) / 3
  | a :: b :: c :: r => by
    simp only [packE, List.length_append, three_len, packE_len r, List.length_cons]; omega
  | [a, b] => by simp [packE, three_len]
  | [a] => by simp [packE, three_len]
  | [] => rfl
def Av.bytes (a : Av) : List UInt8 := beBytes (a.evs.length + if a.all = true then 8192 else 0) 2 ++ (beBytes a.first.toNat 2 ++ packE a.evs)
theorem Av.bytes_len (a : Av) : a.bytes.length = 4 + (a.evs.length + 2) / 3 := by simp [Av.bytes, beBytes_len, packE_len]; omega
def mvBody (l : List Av) : List UInt8 := l.flatMap Av.bytes
theorem mvBody_snoc (l : List Av) (a : Av) : mvBody (l ++ [a]) = mvBody l ++ a.bytes := by simp [mvBody]
theorem mvBody_append (l m : List Av) : mvBody (l ++ m) = mvBody l ++ mvBody m := by simp [mvBody]
def mvBytes (l : List Av) : List UInt8 := if l.length = 0 then [0, 0, 0] else [0, 1, 2] ++ mvBody l ++ [0, 0, 0, 0]
/-- One of the three events of a byte. -/
def stepE (n k pl : Nat) (x : List Int × RS) (i e : Nat) : List Int × RS :=
  if k + i < n then (x.1 ++ [(e : Int)], x.2) else if e ≠ 0 then (x.1, failM x.2 15 (pl : Int)) else x
/-- What stands behind a byte of events. -/
def byteM (R : RS) : Nat × RS := ((numM R 1).1, if 215 < (numM R 1).1 then failM (numM R 1).2 2 (R.place : Int) else (numM R 1).2)
def grpM (n k : Nat) (R : RS) (acc : List Int) : List Int × RS :=
  stepE n k R.place (stepE n k R.place (stepE n k R.place (acc, (byteM R).2) 0 ((byteM R).1 / 36)) 1 ((byteM R).1 / 6 % 6)) 2 ((byteM R).1 % 6)
def evM : Nat → Nat → Nat → RS → List Int → List Int × RS
  | 0, _, _, R, acc => (acc, R)
  | f + 1, n, k, R, acc => if k < n ∧ R.err = none then evM f n (k + 3) (grpM n k R acc).2 (grpM n k R acc).1 else (acc, R)
def attrM (R : RS) : Option Av × RS :=
  if (numM R 2).2.err ≠ none ∨ (numM R 2).1 = 0 then (none, (numM R 2).2)
  else if 1 < (numM R 2).1 / 8192 ∨ 400 < (numM R 2).1 % 8192 then (none, failM (numM R 2).2 2 (R.place : Int))
  else
    let f := numM (numM R 2).2 2
    let e := evM 134 ((numM R 2).1 % 8192) 0 f.2 []
    let a : Av := ⟨decide ((numM R 2).1 / 8192 = 1), f.1, e.1⟩
    if e.2.err ≠ none then (none, e.2) else if a.okB = true then (some a, e.2) else (none, failM e.2 2 (R.place : Int))
def attrsM : Nat → Nat → RS → List Av → List Av × RS
  | 0, _, R, l => (l, R)
  | f + 1, p, R, l => match attrM R with
    | (none, R') => (l, R')
    | (some a, R') => attrsM f p (if 40 < (l ++ [a]).length then failM R' 4 (p : Int) else R') (l ++ [a])
def mvM : Nat → RS → List Av → Option (List Av) × RS
  | 0, R, _ => (none, R)
  | f + 1, R, l => match R.err with
    | some _ => (none, R)
    | none =>
      let k := numM R 1
      let z := numM k.2 1
      if z.2.err ≠ none then (none, z.2)
      else if k.1 = 0 ∧ z.1 = 0 then (if (zerosM z.2).1 = true then (some l, (zerosM z.2).2) else (none, (zerosM z.2).2))
      else if k.1 ≠ 1 then (none, failM z.2 5 (R.place : Int))
      else if z.1 ≠ 2 then (none, failM z.2 3 ((R.place + 1 : Nat) : Int))
      else mvM f (attrsM 43 R.place z.2 l).2 (attrsM 43 R.place z.2 l).1
def readMvM (s : List UInt8) : Option (List Av) × RS :=
  mvM (s.length + 1) (if (numM (newM s 0) 1).1 ≠ 0 then failM (numM (newM s 0) 1).2 3 0 else (numM (newM s 0) 1).2) []
-- What is written is read.
theorem byteM_left {R : RS} {a b c : Int} {rest : List UInt8} (ha : evOk a = true) (hb : evOk b = true) (hc : evOk c = true) (h : R.Left (three a b c ++ rest)) :
    byteM R = (((a * 6 + b) * 6 + c).toNat, R.skip 1) := by
  obtain ⟨a0, a1⟩ := evOk_iff.1 ha
  obtain ⟨b0, b1⟩ := evOk_iff.1 hb
  obtain ⟨c0, c1⟩ := evOk_iff.1 hc
  have e := numM_be (n := 1) h (show ((a * 6 + b) * 6 + c).toNat < 256 ^ 1 by omega)
  unfold byteM
  rw [e]
  simp only []
  rw [if_neg (by omega)]
theorem stepE_in {n k pl : Nat} {x : List Int × RS} {i e : Nat} (h : k + i < n) : stepE n k pl x i e = (x.1 ++ [(e : Int)], x.2) := by unfold stepE; rw [if_pos h]
theorem stepE_out {n k pl : Nat} {x : List Int × RS} {i : Nat} (h : ¬ k + i < n) : stepE n k pl x i 0 = x := by unfold stepE; rw [if_neg h]; simp
theorem evM_end {f n k : Nat} {R : RS} {acc : List Int} (h : ¬ k < n) : evM f n k R acc = (acc, R) := by
  cases f with
  | zero => rfl
  | succ f => unfold evM; rw [if_neg (fun x => h x.1)]
theorem evM_left : ∀ (es : List Int) (f n k : Nat) (R : RS) (acc : List Int) (rest : List UInt8), (∀ e ∈ es, evOk e = true) → n = k + es.length → es.length ≤ 3 * f → R.Left (packE es ++ rest) →
    ∃ R', evM f n k R acc = (acc ++ es, R') ∧ R'.Left rest
  | [], f, n, k, R, acc, rest, _, hn, _, h => ⟨R, by rw [evM_end (by simp at hn; omega)]; simp, by simpa [packE] using h⟩
  | [a], f + 1, n, k, R, acc, rest, ho, hn, hf, h => by
    have oa := ho a (by simp)
    have hb := byteM_left oa (show evOk 0 = true from rfl) (show evOk 0 = true from rfl) h
    obtain ⟨a0, a1⟩ := evOk_iff.1 oa
    have hn : n = k + 1 := by simpa using hn
    refine ⟨R.skip 1, ?_, h.skip (three_len ..)⟩
    unfold evM
    rw [if_pos ⟨by omega, h.none⟩, evM_end (by omega)]
    unfold grpM
    rw [hb]
    simp only []
    rw [stepE_in (i := 0) (by omega), show ((a * 6 + 0) * 6 + 0).toNat / 6 % 6 = 0 by omega, show ((a * 6 + 0) * 6 + 0).toNat % 6 = 0 by omega, stepE_out (i := 1) (by omega), stepE_out (i := 2) (by omega)]
    simp only []
    rw [show (((((a * 6 + 0) * 6 + 0).toNat / 36 : Nat)) : Int) = a by omega]
  | [a, b], f + 1, n, k, R, acc, rest, ho, hn, hf, h => by
    have oa := ho a (by simp)
    have ob := ho b (by simp)
    have hb := byteM_left oa ob (show evOk 0 = true from rfl) h
    obtain ⟨a0, a1⟩ := evOk_iff.1 oa
    obtain ⟨b0, b1⟩ := evOk_iff.1 ob
    have hn : n = k + 2 := by simpa using hn
    refine ⟨R.skip 1, ?_, h.skip (three_len ..)⟩
    unfold evM
    rw [if_pos ⟨by omega, h.none⟩, evM_end (by omega)]
    unfold grpM
    rw [hb]
    simp only []
    rw [stepE_in (i := 0) (by omega), stepE_in (i := 1) (by omega), show ((a * 6 + b) * 6 + 0).toNat % 6 = 0 by omega, stepE_out (i := 2) (by omega)]
    simp only [List.append_assoc, List.singleton_append]
    rw [show (((((a * 6 + b) * 6 + 0).toNat / 36 : Nat)) : Int) = a by omega, show (((((a * 6 + b) * 6 + 0).toNat / 6 % 6 : Nat)) : Int) = b by omega]
  | a :: b :: c :: r, f + 1, n, k, R, acc, rest, ho, hn, hf, h => by
    have oa := ho a (by simp)
    have ob := ho b (by simp)
    have oc := ho c (by simp)
    have h' : R.Left (three a b c ++ (packE r ++ rest)) := by simpa [packE, List.append_assoc] using h
    have hb := byteM_left oa ob oc h'
    obtain ⟨a0, a1⟩ := evOk_iff.1 oa
    obtain ⟨b0, b1⟩ := evOk_iff.1 ob
    obtain ⟨c0, c1⟩ := evOk_iff.1 oc
    simp only [List.length_cons] at hn hf
    obtain ⟨R', e', h2⟩ := evM_left r f n (k + 3) (R.skip 1) (acc ++ [a, b, c]) rest (fun e he => ho e (by simp [he])) (by omega) (by omega) (h'.skip (three_len ..))
    refine ⟨R', ?_, h2⟩
    unfold evM
    rw [if_pos ⟨by omega, h.none⟩]
    have hg : grpM n k R acc = (acc ++ [a, b, c], R.skip 1) := by
      unfold grpM
      rw [hb]
      simp only []
      rw [stepE_in (by omega), stepE_in (by omega), stepE_in (by omega)]
      simp only [List.append_assoc, List.singleton_append]
      rw [show (((((a * 6 + b) * 6 + c).toNat / 36 : Nat)) : Int) = a by omega, show (((((a * 6 + b) * 6 + c).toNat / 6 % 6 : Nat)) : Int) = b by omega, show (((((a * 6 + b) * 6 + c).toNat % 6 : Nat)) : Int) = c by omega]
      rfl
    rw [hg]
    simp only []
    rw [e']
    simp
  | _ :: _, 0, _, _, _, _, _, _, _, hf, _ => by simp at hf
theorem attrM_left {a : Av} {R : RS} {rest : List UInt8} (ha : a.okB = true) (h : R.Left (a.bytes ++ rest)) : ∃ R', attrM R = (some a, R') ∧ R'.Left rest := by
  obtain ⟨h1, h2, h3, h4, h5, h6⟩ := Av.ok_iff.1 ha
  have g0 : R.Left (beBytes (a.evs.length + if a.all = true then 8192 else 0) 2 ++ (beBytes a.first.toNat 2 ++ (packE a.evs ++ rest))) := by simpa [Av.bytes, List.append_assoc] using h
  have hlt : a.evs.length + (if a.all = true then 8192 else 0) < 256 ^ 2 := by split <;> omega
  have e1 := numM_be (n := 2) g0 hlt
  have g1 := g0.skip (beBytes_len _ 2)
  have e2 := numM_be (n := 2) g1 (show a.first.toNat < 256 ^ 2 by omega)
  have g2 := g1.skip (beBytes_len _ 2)
  obtain ⟨R', e3, g3⟩ := evM_left a.evs 134 a.evs.length 0 _ [] rest h6 (by omega) (by omega) g2
  have hd : (a.evs.length + (if a.all = true then 8192 else 0)) / 8192 = if a.all = true then 1 else 0 := by split <;> omega
  have hm : (a.evs.length + (if a.all = true then 8192 else 0)) % 8192 = a.evs.length := by split <;> omega
  have hz : a.evs.length + (if a.all = true then 8192 else 0) ≠ 0 := by
    intro h0
    have : a.evs.length = 0 := by omega
    rw [if_pos (h1 this)] at h0
    omega
  have hav : (⟨decide ((if a.all = true then 1 else 0) = 1), ((a.first.toNat : Nat) : Int), a.evs⟩ : Av) = a := by
    obtain ⟨al, fi, es⟩ := a
    simp only [Av.mk.injEq, and_true] at *
    refine ⟨?_, by omega⟩
    cases al <;> simp
  refine ⟨R', ?_, g3⟩
  unfold attrM
  rw [e1]
  simp only []
  rw [if_neg (by rintro (x | x); exact x g1.none; exact hz x), hd, hm, if_neg (by rintro (x | x); (split at x <;> omega); omega), e2]
  simp only []
  rw [e3]
  simp only [List.nil_append]
  rw [if_neg (fun x => x g3.none), hav, if_pos ha]
theorem attrM_end {R : RS} {rest : List UInt8} (h : R.Left ([0, 0] ++ rest)) : attrM R = (none, R.skip 2) := by
  have e1 : numM R 2 = (0, R.skip 2) := numM_left h rfl
  unfold attrM
  rw [e1]
  simp
theorem attrsM_left : ∀ (m : List Av) (f p : Nat) (R : RS) (l : List Av) (rest : List UInt8), (∀ a ∈ m, a.okB = true) → m.length < f → (l ++ m).length ≤ 40 → R.Left (mvBody m ++ ([0, 0] ++ rest)) →
    ∃ R', attrsM f p R l = (l ++ m, R') ∧ R'.Left rest
  | [], f + 1, p, R, l, rest, _, _, _, h => by
    have h : R.Left ([0, 0] ++ rest) := by simpa [mvBody] using h
    refine ⟨R.skip 2, ?_, h.skip rfl⟩
    unfold attrsM
    rw [attrM_end h]
    simp
  | a :: m, f + 1, p, R, l, rest, ho, hf, hl, h => by
    have h0 : R.Left (a.bytes ++ (mvBody m ++ ([0, 0] ++ rest))) := by simpa [mvBody, List.append_assoc] using h
    obtain ⟨R1, e1, h1⟩ := attrM_left (ho a (by simp)) h0
    simp only [List.length_append, List.length_cons] at hl hf
    obtain ⟨R2, e2, h2⟩ := attrsM_left m f p R1 (l ++ [a]) rest (fun x hx => ho x (by simp [hx])) (by omega) (by simp; omega) h1
    refine ⟨R2, ?_, h2⟩
    unfold attrsM
    rw [e1]
    simp only []
    rw [if_neg (by simp; omega), e2]
    simp
theorem mvM_end {R : RS} {l : List Av} {f : Nat} (h : R.Left [0, 0]) : ∃ R', mvM (f + 1) R l = (some l, R') ∧ R'.err = none := by
  have h0 : R.Left ([0] ++ [0]) := h
  have e1 : numM R 1 = (0, R.skip 1) := numM_left h0 rfl
  have h1 := h0.skip (n := 1) rfl
  have h1' : (R.skip 1).Left ([0] ++ []) := h1
  have e2 : numM (R.skip 1) 1 = (0, (R.skip 1).skip 1) := numM_left h1' rfl
  have h2 := h1'.skip (n := 1) rfl
  have hz := zerosM_left h2 (by simp)
  refine ⟨{ (R.skip 1).skip 1 with at_ := ((R.skip 1).skip 1).s.length }, ?_, h2.none⟩
  unfold mvM
  rw [h.none]
  simp only [e1, e2]
  rw [if_neg (fun x => x h2.none), if_pos (by decide), hz]
  simp
theorem readMv_bytes {l : List Av} (ho : ∀ a ∈ l, a.okB = true) (hl : l.length ≤ 40) (hs : (mvBytes l).length ≤ 4611686018427387904) : ∃ R, readMvM (mvBytes l) = (some l, R) ∧ R.err = none := by
  have g := newM_left (mvBytes l) 0 (by omega)
  unfold readMvM
  unfold mvBytes at *
  by_cases h0 : l.length = 0
  · rw [if_pos h0] at *
    have hl0 : l = [] := List.length_eq_zero_iff.1 h0
    subst hl0
    have g0 : (newM [0, 0, 0] 0).Left ([0] ++ [0, 0]) := g
    have e1 : numM (newM [0, 0, 0] 0) 1 = (0, (newM [0, 0, 0] 0).skip 1) := numM_left g0 rfl
    rw [e1]
    exact mvM_end (g0.skip rfl)
  · rw [if_neg h0] at *
    have g0 : (newM ([0, 1, 2] ++ mvBody l ++ [0, 0, 0, 0]) 0).Left ([0] ++ ([1] ++ ([2] ++ (mvBody l ++ ([0, 0] ++ [0, 0]))))) := by simpa using g
    generalize newM ([0, 1, 2] ++ mvBody l ++ [0, 0, 0, 0]) 0 = R at *
    have e1 : numM R 1 = (0, R.skip 1) := numM_left g0 rfl
    have g1 := g0.skip (n := 1) rfl
    have e2 : numM (R.skip 1) 1 = (1, (R.skip 1).skip 1) := numM_left g1 rfl
    have g2 := g1.skip (n := 1) rfl
    have e3 : numM ((R.skip 1).skip 1) 1 = (2, ((R.skip 1).skip 1).skip 1) := numM_left g2 rfl
    have g3 := g2.skip (n := 1) rfl
    obtain ⟨R', e4, g4⟩ := attrsM_left l 43 (R.skip 1).place _ [] [0, 0] ho (by omega) (by simpa using hl) g3
    rw [e1]
    simp only [ne_eq, not_true_eq_false, if_false]
    obtain ⟨f, hf⟩ : ∃ f, ([0, 1, 2] ++ mvBody l ++ [0, 0, 0, 0]).length + 1 = f + 1 + 1 := ⟨([1, 2] ++ mvBody l ++ [0, 0, 0, 0]).length, by simp⟩
    rw [hf]
    have : mvM (f + 1 + 1) (R.skip 1) [] = mvM (f + 1) R' l := by
      conv => lhs; unfold mvM
      rw [g1.none]
      simp only [e2, e3]
      rw [if_neg (fun x => x g3.none), if_neg (by decide), if_neg (by decide), if_neg (by decide), e4]
      simp
    rw [this]
    exact mvM_end g4
-- What is read stood there.
theorem stepE_ok {n k pl : Nat} {x : List Int × RS} {i e : Nat} (h : (stepE n k pl x i e).2.err = none) : (stepE n k pl x i e).2 = x.2 ∧ (stepE n k pl x i e).1.length = x.1.length + if k + i < n then 1 else 0 := by
  unfold stepE at h ⊢
  split
  · simp
  · rename_i h1
    rw [if_neg h1] at h
    split
    · rename_i h2
      rw [if_pos h2] at h
      exact (failM_back h).elim
    · simp
theorem byteM_back {R : RS} (hok : R.ok) (h : (byteM R).2.err = none) : ∃ c rest, c.length = 1 ∧ R.Left (c ++ rest) ∧ (byteM R).2 = R.skip 1 ∧ (R.skip 1).Left rest := by
  unfold byteM at h ⊢
  simp only [] at h ⊢
  split at h
  · exact (failM_back h).elim
  · rename_i h1
    obtain ⟨c, rest, g1, g2, g3, g4⟩ := numM_back hok h
    refine ⟨c, rest, g1, g2, ?_, g4⟩
    rw [if_neg h1, g3]
theorem RS.ok.byte {R : RS} (h : R.ok) : (byteM R).2.ok := by
  unfold byteM
  simp only []
  split
  · exact (h.num 1).fail _ _
  · exact h.num 1
theorem evM_back : ∀ (f n k : Nat) (R : RS) (acc : List Int), R.ok → n - k ≤ 3 * f → (evM f n k R acc).2.err = none →
    ∃ c rest, c.length = (n - k + 2) / 3 ∧ R.Left (c ++ rest) ∧ (evM f n k R acc).2.Left rest ∧ (evM f n k R acc).1.length = acc.length + (n - k)
  | 0, n, k, R, acc, hok, hf, h => ⟨[], R.s.drop R.at_, by simp; omega, ⟨h, hok, rfl⟩, ⟨h, hok, rfl⟩, by unfold evM; simp; omega⟩
  | f + 1, n, k, R, acc, hok, hf, h => by
    unfold evM at h ⊢
    by_cases hc : k < n ∧ R.err = none
    · rw [if_pos hc] at h ⊢
      have hg : (grpM n k R acc).2.err = none := by
        have key : ∀ (f k : Nat) (R : RS) (acc : List Int), (evM f n k R acc).2.err = none → R.err = none := by
          intro f
          induction f with
          | zero => intro k R acc h; exact h
          | succ f ih =>
            intro k R acc h
            unfold evM at h
            by_cases hc : k < n ∧ R.err = none
            · exact hc.2
            · rw [if_neg hc] at h; exact h
        exact key _ _ _ _ h
      have hg' := hg
      unfold grpM at hg'
      obtain ⟨q1, l1⟩ := stepE_ok hg'
      rw [q1] at hg'
      obtain ⟨q2, l2⟩ := stepE_ok hg'
      rw [q2] at hg'
      obtain ⟨q3, l3⟩ := stepE_ok hg'
      rw [q3] at hg'
      obtain ⟨c1, r1, g1, g2, g3, g4⟩ := byteM_back hok hg'
      have e2 : (grpM n k R acc).2 = R.skip 1 := by
        unfold grpM
        rw [q1, q2, q3]
        exact g3
      have el : (grpM n k R acc).1.length = acc.length + ((if k + 0 < n then 1 else 0) + ((if k + 1 < n then 1 else 0) + if k + 2 < n then 1 else 0)) := by
        unfold grpM
        rw [l1, l2, l3]
        simp only []
        omega
      rw [e2] at h ⊢
      obtain ⟨c, rest, k1, k2, k3, k4⟩ := evM_back f n (k + 3) (R.skip 1) (grpM n k R acc).1 g4.ok (by omega) h
      have hr : r1 = c ++ rest := g4.left.symm.trans k2.left
      refine ⟨c1 ++ c, rest, by rw [List.length_append, g1, k1]; omega, by rw [List.append_assoc, ← hr]; exact g2, k3, ?_⟩
      rw [k4, el]
      have := hc.1
      split <;> split <;> split <;> omega
    · rw [if_neg hc] at h ⊢
      have hk : ¬ k < n := fun x => hc ⟨x, h⟩
      exact ⟨[], R.s.drop R.at_, by simp; omega, ⟨h, hok, rfl⟩, ⟨h, hok, rfl⟩, by simp; omega⟩
theorem attrM_back {R R' : RS} {a : Av} (hok : R.ok) (h : attrM R = (some a, R')) : a.okB = true ∧ ∃ c rest, c.length = a.bytes.length ∧ R.Left (c ++ rest) ∧ R'.Left rest := by
  unfold attrM at h
  split at h
  · simp at h
  · rename_i h1
    split at h
    · simp at h
    · rename_i h2
      simp only [] at h
      split at h
      · simp at h
      · rename_i h3
        split at h
        · rename_i h4
          simp only [Prod.mk.injEq, Option.some.injEq] at h
          obtain ⟨rfl, rfl⟩ := h
          have hn : (numM R 2).2.err = none := Classical.byContradiction fun x => h1 (.inl x)
          obtain ⟨c1, r1, g1, g2, g3, g4⟩ := numM_back hok hn
          have h3 := Classical.not_not.1 h3
          rw [g3] at h2 h3 h4 ⊢
          simp only [] at h2 h3 h4 ⊢
          have hf : (numM (R.skip 2) 2).2.err = none := by
            have key : ∀ (f n k : Nat) (R : RS) (acc : List Int), (evM f n k R acc).2.err = none → R.err = none := by
              intro f
              induction f with
              | zero => intro n k R acc h; exact h
              | succ f ih =>
                intro n k R acc h
                unfold evM at h
                by_cases hc : k < n ∧ R.err = none
                · exact hc.2
                · rw [if_neg hc] at h; exact h
            exact key _ _ _ _ _ h3
          obtain ⟨c2, r2, k1, k2, k3, k4⟩ := numM_back g4.ok hf
          rw [k3] at h3 h4 ⊢
          simp only [] at h3 h4 ⊢
          obtain ⟨c3, r3, m1, m2, m3, m4⟩ := evM_back 134 _ 0 _ [] k4.ok (by omega) h3
          refine ⟨h4, c1 ++ (c2 ++ c3), r3, ?_, ?_, m3⟩
          · rw [Av.bytes_len]
            simp only [List.length_append, g1, k1, m1, m4, List.length_nil, Nat.sub_zero, Nat.zero_add]
            omega
          · have q1 : r1 = c2 ++ r2 := g4.left.symm.trans k2.left
            have q2 : r2 = c3 ++ r3 := k4.left.symm.trans m2.left
            rw [q1, q2] at g2
            simpa [List.append_assoc] using g2
        · simp at h
theorem attrM_had {R : RS} (h : R.err ≠ none) : attrM R = (none, R) := by
  cases he : R.err with
  | none => exact absurd he h
  | some x =>
    have hn : numM R 2 = (0, R) := by unfold numM; rw [bytesM_had he]; rfl
    unfold attrM
    rw [hn]
    simp
theorem attrM_no {R R' : RS} (hok : R.ok) (h : attrM R = (none, R')) (he : R'.err = none) : ∃ c rest, c.length = 2 ∧ R.Left (c ++ rest) ∧ R'.Left rest := by
  unfold attrM at h
  split at h
  · simp only [Prod.mk.injEq, true_and] at h
    subst h
    obtain ⟨c, rest, g1, g2, g3, g4⟩ := numM_back hok he
    rw [g3]
    exact ⟨c, rest, g1, g2, g4⟩
  · split at h
    · simp only [Prod.mk.injEq, true_and] at h
      subst h
      exact (failM_back he).elim
    · simp only [] at h
      split at h
      · rename_i h3
        simp only [Prod.mk.injEq, true_and] at h
        subst h
        exact absurd he h3
      · split at h
        · simp at h
        · simp only [Prod.mk.injEq, true_and] at h
          subst h
          exact (failM_back he).elim
theorem failM_s (R : RS) (e p : Int) : (failM R e p).s = R.s := by unfold failM; split <;> rfl
theorem bytesM_s (R : RS) (n : Nat) : (bytesM R n).2.s = R.s := by
  unfold bytesM
  split
  · rfl
  · split <;> rfl
theorem numM_s (R : RS) (n : Nat) : (numM R n).2.s = R.s := bytesM_s R n
theorem stepE_s (n k pl : Nat) (x : List Int × RS) (i e : Nat) : (stepE n k pl x i e).2.s = x.2.s := by
  unfold stepE
  split
  · rfl
  · split
    · exact failM_s ..
    · rfl
theorem byteM_s (R : RS) : (byteM R).2.s = R.s := by
  unfold byteM
  simp only []
  split
  · rw [failM_s, numM_s]
  · rw [numM_s]
theorem evM_s : ∀ (f n k : Nat) (R : RS) (acc : List Int), (evM f n k R acc).2.s = R.s
  | 0, _, _, _, _ => rfl
  | f + 1, n, k, R, acc => by
    unfold evM
    split
    · rw [evM_s]
      unfold grpM
      rw [stepE_s, stepE_s, stepE_s, byteM_s]
    · rfl
theorem attrM_s (R : RS) : (attrM R).2.s = R.s := by
  unfold attrM
  split
  · exact numM_s R 2
  · split
    · rw [failM_s, numM_s]
    · simp only []
      split
      · rw [evM_s, numM_s, numM_s]
      · split
        · rw [evM_s, numM_s, numM_s]
        · rw [failM_s, evM_s, numM_s, numM_s]
theorem attrsM_s : ∀ (f p : Nat) (R : RS) (l : List Av), (attrsM f p R l).2.s = R.s
  | 0, _, _, _ => rfl
  | f + 1, p, R, l => by
    unfold attrsM
    have h := attrM_s R
    generalize attrM R = x at h ⊢
    obtain ⟨o, R'⟩ := x
    cases o with
    | none => exact h
    | some a =>
      simp only [] at h ⊢
      rw [attrsM_s]
      split
      · rw [failM_s]; exact h
      · exact h
theorem attrsM_back : ∀ (f p : Nat) (R : RS) (l : List Av), R.ok → l.length ≤ 40 → 41 ≤ f + l.length → (attrsM f p R l).2.err = none →
    ∃ m c rest, (attrsM f p R l).1 = l ++ m ∧ (l ++ m).length ≤ 40 ∧ (∀ a ∈ m, a.okB = true) ∧ c.length = (mvBody m).length + 2 ∧ R.Left (c ++ rest) ∧ (attrsM f p R l).2.Left rest
  | 0, p, R, l, _, h1, h2, _ => by omega
  | f + 1, p, R, l, hok, h1, h2, h => by
    unfold attrsM at h ⊢
    rcases ha : attrM R with ⟨o, R'⟩
    cases o with
    | none =>
      rw [ha] at h
      simp only [] at h ⊢
      obtain ⟨c, rest, g1, g2, g3⟩ := attrM_no hok ha h
      exact ⟨[], c, rest, by simp, by simpa using h1, by simp, by simpa [mvBody] using g1, g2, g3⟩
    | some a =>
      rw [ha] at h
      simp only [] at h ⊢
      obtain ⟨k1, c, rest, k2, k3, k4⟩ := attrM_back hok ha
      by_cases hl : 40 < (l ++ [a]).length
      · rw [if_pos hl] at h
        exfalso
        have key : ∀ (f : Nat) (R : RS) (l : List Av), R.err ≠ none → (attrsM f p R l).2.err ≠ none := by
          intro f R l hR
          cases f with
          | zero => exact hR
          | succ f => unfold attrsM; rw [attrM_had hR]; exact hR
        exact key _ _ _ (failM_err _ _ _) h
      · rw [if_neg hl] at h ⊢
        obtain ⟨m, c', rest', m1, m2, m3, m4, m5, m6⟩ := attrsM_back f p R' (l ++ [a]) k4.ok (by omega) (by simp; omega) h
        have hr : rest = c' ++ rest' := k4.left.symm.trans m5.left
        refine ⟨a :: m, c ++ c', rest', by rw [m1]; simp, by simpa using m2, ?_, ?_, by rw [List.append_assoc, ← hr]; exact k3, m6⟩
        · intro x hx
          rcases List.mem_cons.1 hx with rfl | hx
          · exact k1
          · exact m3 x hx
        · have : mvBody (a :: m) = a.bytes ++ mvBody m := by simp [mvBody]
          rw [this, List.length_append, List.length_append, k2, m4]; omega
theorem mvM_back : ∀ (f : Nat) (R R' : RS) (l l' : List Av), R.ok → l.length ≤ 40 → (∀ a ∈ l, a.okB = true) → mvM f R l = (some l', R') →
    l'.length ≤ 40 ∧ (∀ a ∈ l', a.okB = true) ∧ R.at_ + 2 + (mvBody l').length + (if l'.length = l.length then 0 else 4) ≤ R.s.length + (mvBody l).length
  | 0, R, R', l, l', _, _, _, h => by simp [mvM] at h
  | f + 1, R, R', l, l', hok, hl, ho, h => by
    unfold mvM at h
    cases he : R.err with
    | some x => rw [he] at h; simp at h
    | none =>
      rw [he] at h
      simp only [] at h
      split at h
      · simp at h
      · rename_i h1
        have h1 := Classical.not_not.1 h1
        have hk : (numM R 1).2.err = none := bytesM_err h1
        obtain ⟨c1, r1, g1, g2, g3, g4⟩ := numM_back hok hk
        rw [g3] at h h1
        simp only [] at h h1
        obtain ⟨c2, r2, k1, k2, k3, k4⟩ := numM_back g4.ok h1
        rw [k3] at h
        simp only [] at h
        have len := k4.len
        have sk : ((R.skip 1).skip 1).at_ = R.at_ + 2 := rfl
        have ss : ((R.skip 1).skip 1).s = R.s := rfl
        rw [sk, ss] at len
        split at h
        · split at h
          · simp only [Prod.mk.injEq, Option.some.injEq] at h
            obtain ⟨rfl, _⟩ := h
            refine ⟨hl, ho, ?_⟩
            simp; omega
          · simp at h
        · split at h
          · simp at h
          · split at h
            · simp at h
            · generalize hA : attrsM 43 R.place ((R.skip 1).skip 1) l = A at h
              have hAe : A.2.err = none := by
                cases hx : A.2.err with
                | none => rfl
                | some x =>
                  cases f with
                  | zero => simp [mvM] at h
                  | succ f => unfold mvM at h; rw [hx] at h; simp at h
              rw [← hA] at hAe h
              obtain ⟨m, c, rest, m1, m2, m3, m4, m5, m6⟩ := attrsM_back 43 R.place ((R.skip 1).skip 1) l k4.ok hl (by omega) hAe
              rw [m1] at h
              obtain ⟨n1, n2, n3⟩ := mvM_back f _ R' (l ++ m) l' m6.ok m2 (fun a ha => by
                rcases List.mem_append.1 ha with ha | ha
                · exact ho a ha
                · exact m3 a ha) h
              refine ⟨n1, n2, ?_⟩
              have e1 := m5.len
              have e2 := m6.len
              have hs : (attrsM 43 R.place ((R.skip 1).skip 1) l).2.s = R.s := attrsM_s _ _ _ _
              rw [sk, ss, List.length_append] at e1
              rw [hs] at e2 n3
              rw [mvBody_append] at n3
              have hla : (mvBody l ++ mvBody m).length = (mvBody l).length + (mvBody m).length := List.length_append
              rw [hla] at n3
              split at n3 <;> split <;> omega
theorem readMv_back {s : List UInt8} {l : List Av} {R' : RS} (hs : s.length ≤ 4611686018427387904) (h : readMvM s = (some l, R')) : l.length ≤ 40 ∧ (∀ a ∈ l, a.okB = true) ∧ (mvBytes l).length ≤ s.length := by
  have hok : (newM s 0).ok := ⟨Nat.zero_le _, by show 0 + s.length ≤ _; omega⟩
  unfold readMvM at h
  have key : ∀ (f : Nat) (R : RS), R.err ≠ none → mvM f R [] ≠ (some l, R') := by
    intro f R hR
    cases f with
    | zero => simp [mvM]
    | succ f =>
      unfold mvM
      cases he : R.err with
      | none => exact absurd he hR
      | some x => simp
  split at h
  · exact absurd h (key _ _ (failM_err _ _ _))
  · have hn : (numM (newM s 0) 1).2.err = none := Classical.byContradiction fun x => key _ _ x h
    obtain ⟨c1, r1, g1, g2, g3, g4⟩ := numM_back hok hn
    rw [g3] at h
    obtain ⟨n1, n2, n3⟩ := mvM_back _ _ R' [] l g4.ok (by simp) (by simp) h
    refine ⟨n1, n2, ?_⟩
    have e1 : ((newM s 0).skip 1).at_ = 1 := rfl
    have e2 : ((newM s 0).skip 1).s = s := rfl
    rw [e1, e2] at n3
    have e3 : (mvBody []).length = 0 := rfl
    rw [e3] at n3
    unfold mvBytes
    by_cases h0 : l.length = 0
    · rw [if_pos h0]
      have : l = [] := List.length_eq_zero_iff.1 h0
      subst this
      rw [e3] at n3
      simp at n3 ⊢
      omega
    · rw [if_neg h0]
      rw [if_neg (by simpa using h0)] at n3
      simp only [List.length_append, List.length_cons, List.length_nil]
      omega
end Go.Proofs.YtjekdodboihfhaaDoor

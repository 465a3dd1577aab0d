/- Numbers as bytes: plain. A Reader as plain data: its text, its place, its offset, its error. No program in sight. What stands next in a text that is read. No program in sight. A region that draws its order, whose first operations are quiet in a class of worlds and whose last ones stand in one forced order: one walk. (After the library's StillTail, with a class of worlds for the one world.) Rows of cells: boxes of a call, whole stores, results that lie in memory. Blocks known whole with their type; rows of one's own; append of one row. The same tail, the first operation walked with the others. '[]T{x}' of one struct, at the level of a region's list. -/
import Derived.Handy
import Derived.Test.YteibhcocldihbaaDoorKit
import Derived.StillTail
import Derived.BigRegion
import Derived.Deep.MidRow
import Derived.Deep.DeepCutAuto
import Derived.Laws.OwnMore
import Derived.Deep.WholeRow
set_option linter.all false
namespace Go.Proofs.YteibhcocldihbaaDoor
/-- The number of some bytes, the greatest first. -/
def beNum (l : List UInt8) : Nat := l.foldl (fun x c => 256 * x + c.toNat) 0
theorem beNum_snoc (l : List UInt8) (c : UInt8) : beNum (l ++ [c]) = 256 * beNum l + c.toNat := by simp [beNum]
theorem beNum_nil : beNum [] = 0 := rfl
theorem beNum_from (l : List UInt8) : ∀ x, l.foldl (fun x c => 256 * x + c.toNat) x = x * 256 ^ l.length + beNum l := by
  induction l with
  | nil => intro x; simp [beNum]
  | cons c l ih =>
    intro x
    simp only [List.foldl_cons, List.length_cons, beNum]
    rw [ih, ih (256 * 0 + c.toNat), Nat.pow_succ, Nat.add_mul]
    rw [show 256 * x * 256 ^ l.length = x * (256 ^ l.length * 256) by ac_rfl, Nat.mul_zero, Nat.zero_add]
    omega
theorem beNum_cons (c : UInt8) (l : List UInt8) : beNum (c :: l) = c.toNat * 256 ^ l.length + beNum l := by
  have := beNum_from l c.toNat
  simpa [beNum] using this
theorem beNum_append (a b : List UInt8) : beNum (a ++ b) = beNum a * 256 ^ b.length + beNum b := by
  rw [← beNum_from]; simp [beNum]
theorem beNum_lt (l : List UInt8) : beNum l < 256 ^ l.length := by
  induction l with
  | nil => simp [beNum]
  | cons c l ih =>
    have hc := c.toNat_lt
    rw [beNum_cons, List.length_cons, Nat.pow_succ]
    calc c.toNat * 256 ^ l.length + beNum l < c.toNat * 256 ^ l.length + 256 ^ l.length := by omega
      _ = (c.toNat + 1) * 256 ^ l.length := by rw [Nat.add_mul]; omega
      _ ≤ 256 * 256 ^ l.length := Nat.mul_le_mul_right _ (by omega)
      _ = 256 ^ l.length * 256 := Nat.mul_comm _ _
/-- A number as n bytes, the greatest first. -/
def beBytes (x n : Nat) : List UInt8 := (List.range n).map fun i => UInt8.ofNat (x / 2 ^ (8 * (n - 1 - i)) % 256)
theorem beBytes_len (x n : Nat) : (beBytes x n).length = n := by simp [beBytes]
theorem beBytes_get (x n i : Nat) (h : i < (beBytes x n).length) : (beBytes x n)[i] = UInt8.ofNat (x / 2 ^ (8 * (n - 1 - i)) % 256) := by simp [beBytes]
theorem beBytes_step (x n k : Nat) (L : List UInt8) (hL : L.length = n) (hk : k < n) (hT : L.drop (n - k) = (beBytes x n).drop (n - k)) :
    (L.set (n - 1 - k) (UInt8.ofNat (x / 2 ^ (8 * k) % 256))).drop (n - (k + 1)) = (beBytes x n).drop (n - (k + 1)) := by
  have e : n - (k + 1) = n - 1 - k := by omega
  have hb := beBytes_len x n
  rw [e, List.drop_eq_getElem_cons (by simp [hL]; omega), List.drop_eq_getElem_cons (l := beBytes x n) (by omega)]
  congr 1
  · rw [List.getElem_set_self, beBytes_get]
    rw [show n - 1 - (n - 1 - k) = k by omega]
  · rw [show n - 1 - k + 1 = n - k by omega, List.drop_set_of_lt (by omega), hT]
theorem beBytes_succ (x n : Nat) : beBytes x (n + 1) = beBytes (x / 256) n ++ [UInt8.ofNat (x % 256)] := by
  apply List.ext_getElem
  · simp [beBytes]
  · intro i h1 h2
    simp only [beBytes_len] at h1
    by_cases hi : i < n
    · rw [beBytes_get, List.getElem_append_left (by simp [beBytes]; omega), beBytes_get]
      congr 2
      rw [Nat.div_div_eq_div_mul]
      congr 1
      rw [show (256 : Nat) = 2 ^ 8 by rfl, ← Nat.pow_add]
      congr 1; omega
    · have : i = n := by omega
      subst this
      rw [beBytes_get, List.getElem_append_right (by simp [beBytes])]
      simp [beBytes]
theorem beNum_beBytes (n : Nat) : ∀ x, x < 256 ^ n → beNum (beBytes x n) = x := by
  induction n with
  | zero => intro x h; simp at h; subst h; rfl
  | succ n ih =>
    intro x h
    rw [beBytes_succ, beNum_snoc, ih (x / 256) (by rw [Nat.pow_succ] at h; omega), UInt8.toNat_ofNat']
    omega
theorem beBytes_beNum_aux : ∀ (n : Nat) (l : List UInt8), l.length = n → beBytes (beNum l) n = l
  | 0, l, h => by
    have : l = [] := List.length_eq_zero_iff.1 h
    subst this; rfl
  | n + 1, l, h => by
    rcases List.eq_nil_or_concat l with rfl | ⟨a, c, rfl⟩
    · simp at h
    · have ha : a.length = n := by simpa using h
      have hc := c.toNat_lt
      rw [List.concat_eq_append, beNum_snoc, beBytes_succ]
      rw [show (256 * beNum a + c.toNat) / 256 = beNum a by omega, show (256 * beNum a + c.toNat) % 256 = c.toNat by omega, beBytes_beNum_aux n a ha]
      simp
theorem beBytes_beNum (l : List UInt8) : beBytes (beNum l) l.length = l := beBytes_beNum_aux _ l rfl
theorem beNum_inj (a b : List UInt8) (hl : a.length = b.length) (h : beNum a = beNum b) : a = b := by
  rw [← beBytes_beNum a, ← beBytes_beNum b, hl, h]
end Go.Proofs.YteibhcocldihbaaDoor
namespace Go.Proofs.YteibhcocldihbaaDoor
structure RS where
  s : List UInt8
  at_ : Nat
  off : Nat
  err : Option (Int × Int)
structure RS.ok (R : RS) : Prop where
  le : R.at_ ≤ R.s.length
  lim : R.off + R.s.length ≤ 4611686018427387904
def RS.place (R : RS) : Nat := R.off + R.at_
def failM (R : RS) (e p : Int) : RS := match R.err with
  | some _ => R
  | none => { R with err := some (e, p) }
def bytesM (R : RS) (n : Nat) : List UInt8 × RS := match R.err with
  | some _ => ([], R)
  | none => if R.at_ + n ≤ R.s.length then ((R.s.drop R.at_).take n, { R with at_ := R.at_ + n }) else ([], { R with err := some (7, (R.place : Int)) })
def numM (R : RS) (n : Nat) : Nat × RS := (beNum (bytesM R n).1, (bytesM R n).2)
def nz (c : UInt8) : Bool := decide (c ≠ 0)
def zerosM (R : RS) : Bool × RS := match R.err with
  | some _ => (false, R)
  | none => match (R.s.drop R.at_).findIdx? nz with
    | none => (true, { R with at_ := R.s.length })
    | some j => (false, { R with at_ := R.at_ + j, err := some (15, ((R.place + j : Nat) : Int)) })
def newM (s : List UInt8) (off : Nat) : RS := ⟨s, 0, off, none⟩
theorem RS.ok.fail {R : RS} (h : R.ok) (e p : Int) : (failM R e p).ok := by
  unfold failM; split
  · exact h
  · exact ⟨h.le, h.lim⟩
theorem RS.ok.bytes {R : RS} (h : R.ok) (n : Nat) : (bytesM R n).2.ok := by
  unfold bytesM; split
  · exact h
  · split
    · exact ⟨by assumption, h.lim⟩
    · exact ⟨h.le, h.lim⟩
theorem bytesM_had {R : RS} {x : Int × Int} (h : R.err = some x) (n : Nat) : bytesM R n = ([], R) := by unfold bytesM; rw [h]
theorem bytesM_ok {R : RS} (h : R.err = none) {n : Nat} (hn : R.at_ + n ≤ R.s.length) : bytesM R n = ((R.s.drop R.at_).take n, { R with at_ := R.at_ + n }) := by unfold bytesM; rw [h]; simp only []; rw [if_pos hn]
theorem bytesM_no {R : RS} (h : R.err = none) {n : Nat} (hn : ¬ R.at_ + n ≤ R.s.length) : bytesM R n = ([], { R with err := some (7, (R.place : Int)) }) := by unfold bytesM; rw [h]; simp only []; rw [if_neg hn]
theorem failM_had {R : RS} {x : Int × Int} (h : R.err = some x) (e p : Int) : failM R e p = R := by unfold failM; rw [h]
theorem failM_new {R : RS} (h : R.err = none) (e p : Int) : failM R e p = { R with err := some (e, p) } := by unfold failM; rw [h]
theorem zerosM_had {R : RS} {x : Int × Int} (h : R.err = some x) : zerosM R = (false, R) := by unfold zerosM; rw [h]
theorem zerosM_yes {R : RS} (h : R.err = none) (hf : (R.s.drop R.at_).findIdx? nz = none) : zerosM R = (true, { R with at_ := R.s.length }) := by unfold zerosM; rw [h]; simp only []; rw [hf]
theorem zerosM_no {R : RS} (h : R.err = none) {j : Nat} (hf : (R.s.drop R.at_).findIdx? nz = some j) : zerosM R = (false, failM { R with at_ := R.at_ + j } 15 ((R.place + j : Nat) : Int)) := by
  unfold zerosM; rw [h]; simp only []; rw [hf]; rfl
theorem numM_lt (R : RS) (n : Nat) : (numM R n).1 < 256 ^ n := by
  have h := beNum_lt (bytesM R n).1
  have hl : (bytesM R n).1.length ≤ n := by
    unfold bytesM; split
    · simp
    · split
      · simp [List.length_take]; omega
      · simp
  exact Nat.lt_of_lt_of_le h (Nat.pow_le_pow_right (by decide) hl)
theorem bytesM_len_le (R : RS) (n : Nat) : (bytesM R n).1.length ≤ n := by
  unfold bytesM; split
  · simp
  · split
    · simp [List.length_take]; omega
    · simp
theorem bytesM_len {R : RS} {n : Nat} (h : (bytesM R n).2.err = none) : (bytesM R n).1.length = n := by
  unfold bytesM at h ⊢
  split at h
  · rename_i x hx; simp only [] at h; rw [hx] at h; cases h
  · rename_i hx
    split at h
    · rename_i hn; rw [if_pos hn]; simp; omega
    · cases h
theorem beNum_nil' {R : RS} {x : Int × Int} (h : R.err = some x) (n : Nat) : numM R n = (0, R) := by unfold numM; rw [bytesM_had h]; rfl
end Go.Proofs.YteibhcocldihbaaDoor
namespace Go.Proofs.YteibhcocldihbaaDoor
/-- No error, and this is what is left. -/
structure RS.Left (R : RS) (rest : List UInt8) : Prop where
  none : R.err = none
  ok : R.ok
  left : R.s.drop R.at_ = rest
def RS.skip (R : RS) (n : Nat) : RS := { R with at_ := R.at_ + n }
theorem RS.Left.len {R : RS} {rest : List UInt8} (h : R.Left rest) : R.at_ + rest.length = R.s.length := by
  have h1 := congrArg List.length h.left
  have h2 := h.ok.le
  simp only [List.length_drop] at h1
  omega
theorem RS.Left.skip {R : RS} {c rest : List UInt8} (h : R.Left (c ++ rest)) {n : Nat} (hn : c.length = n) : (R.skip n).Left rest := by
  subst hn
  have hl := h.len
  simp only [List.length_append] at hl
  refine ⟨h.none, ⟨by show R.at_ + c.length ≤ R.s.length; omega, h.ok.lim⟩, ?_⟩
  show R.s.drop (R.at_ + c.length) = rest
  rw [← List.drop_drop, h.left]; simp
theorem bytesM_left {R : RS} {c rest : List UInt8} (h : R.Left (c ++ rest)) {n : Nat} (hn : c.length = n) : bytesM R n = (c, R.skip n) := by
  have hl := h.len
  simp only [List.length_append] at hl
  rw [bytesM_ok h.none (by omega), h.left]
  subst hn
  simp [RS.skip]
theorem numM_left {R : RS} {c rest : List UInt8} (h : R.Left (c ++ rest)) {n : Nat} (hn : c.length = n) : numM R n = (beNum c, R.skip n) := by
  unfold numM; rw [bytesM_left h hn]
theorem numM_be {R : RS} {x n : Nat} {rest : List UInt8} (h : R.Left (beBytes x n ++ rest)) (hx : x < 256 ^ n) : numM R n = (x, R.skip n) := by
  rw [numM_left h (beBytes_len x n), beNum_beBytes n x hx]
theorem newM_left (s : List UInt8) (off : Nat) (h : off + s.length ≤ 4611686018427387904) : (newM s off).Left s := ⟨rfl, ⟨Nat.zero_le _, h⟩, rfl⟩
theorem zerosM_left {R : RS} {rest : List UInt8} (h : R.Left rest) (hz : ∀ c ∈ rest, c = 0) : zerosM R = (true, { R with at_ := R.s.length }) := by
  refine zerosM_yes h.none ?_
  rw [h.left, List.findIdx?_eq_none_iff]
  intro c hc
  simp [nz, hz c hc]
/-- What must stand next. -/
def headM (R : RS) (want : List UInt8) : RS := if (bytesM R want.length).2.err = none ∧ (bytesM R want.length).1 ≠ want then failM (bytesM R want.length).2 3 (R.place : Int) else (bytesM R want.length).2
theorem headM_left {R : RS} {want rest : List UInt8} (h : R.Left (want ++ rest)) : headM R want = R.skip want.length := by
  unfold headM
  rw [bytesM_left h rfl]
  simp
theorem RS.ok.head {R : RS} (h : R.ok) (want : List UInt8) : (headM R want).ok := by
  unfold headM
  split
  · exact (h.bytes _).fail _ _
  · exact h.bytes _
theorem RS.ok.num {R : RS} (h : R.ok) (n : Nat) : (numM R n).2.ok := h.bytes n
theorem RS.ok.zeros {R : RS} (h : R.ok) : (zerosM R).2.ok := by
  unfold zerosM
  split
  · exact h
  · split
    · exact ⟨Nat.le_refl _, h.lim⟩
    · rename_i j hj
      have := (List.findIdx?_eq_some_iff_getElem.1 hj).1
      simp only [List.length_drop] at this
      exact ⟨by show R.at_ + j ≤ R.s.length; omega, h.lim⟩
theorem failM_err (R : RS) (e p : Int) : (failM R e p).err ≠ none := by
  unfold failM
  split
  · rename_i x hx; rw [hx]; exact fun h => by cases h
  · exact fun h => by cases h
theorem failM_back {R : RS} {e p : Int} (h : (failM R e p).err = none) : False := failM_err R e p h
/-- What was read without an error stood there. -/
theorem bytesM_back {R : RS} {n : Nat} (hok : R.ok) (h : (bytesM R n).2.err = none) : ∃ c rest, c.length = n ∧ R.Left (c ++ rest) ∧ bytesM R n = (c, R.skip n) ∧ (R.skip n).Left rest := by
  cases he : R.err with
  | some x => rw [bytesM_had he] at h; rw [he] at h; cases h
  | none =>
    by_cases hn : R.at_ + n ≤ R.s.length
    · have hL : R.Left ((R.s.drop R.at_).take n ++ (R.s.drop R.at_).drop n) := ⟨he, hok, by rw [List.take_append_drop]⟩
      have hc : ((R.s.drop R.at_).take n).length = n := by simp; omega
      exact ⟨_, _, hc, hL, bytesM_left hL hc, hL.skip hc⟩
    · rw [bytesM_no he hn] at h; cases h
theorem bytesM_err {R : RS} {n : Nat} (h : (bytesM R n).2.err = none) : R.err = none := by
  cases he : R.err with
  | some x => rw [bytesM_had he] at h; rw [he] at h; cases h
  | none => rfl
theorem numM_back {R : RS} {n : Nat} (hok : R.ok) (h : (numM R n).2.err = none) : ∃ c rest, c.length = n ∧ R.Left (c ++ rest) ∧ numM R n = (beNum c, R.skip n) ∧ (R.skip n).Left rest := by
  obtain ⟨c, rest, h1, h2, h3, h4⟩ := bytesM_back hok (n := n) h
  exact ⟨c, rest, h1, h2, by unfold numM; rw [h3], h4⟩
theorem headM_back {R : RS} {want : List UInt8} (hok : R.ok) (h : (headM R want).err = none) : ∃ rest, R.Left (want ++ rest) ∧ headM R want = R.skip want.length ∧ (R.skip want.length).Left rest := by
  unfold headM at h
  split at h
  · exact (failM_back h).elim
  · rename_i hn
    obtain ⟨c, rest, h1, h2, h3, h4⟩ := bytesM_back hok h
    have hc : c = want := by
      rw [h3] at hn
      by_cases e : c = want
      · exact e
      · exact absurd ⟨h4.none, e⟩ hn
    subst hc
    exact ⟨rest, h2, headM_left h2, h4⟩
theorem zerosM_back {R : RS} (hok : R.ok) (h : (zerosM R).1 = true) : ∃ rest, R.Left rest ∧ (∀ c ∈ rest, c = 0) ∧ (zerosM R).2.err = none := by
  cases he : R.err with
  | some x => rw [zerosM_had he] at h; cases h
  | none =>
    cases hf : (R.s.drop R.at_).findIdx? nz with
    | none =>
      refine ⟨_, ⟨he, hok, rfl⟩, ?_, by rw [zerosM_yes he hf]; exact he⟩
      rw [List.findIdx?_eq_none_iff] at hf
      intro c hc
      have := hf c hc
      simpa [nz] using this
    | some j => rw [zerosM_no he hf] at h; cases h
theorem zerosM_err {R : RS} : (zerosM R).1 = true ↔ (zerosM R).2.err = none := by
  unfold zerosM
  split
  · rename_i x hx; rw [hx]; simp
  · rename_i hx
    split
    · simp [hx]
    · simp
end Go.Proofs.YteibhcocldihbaaDoor
namespace Go.Proofs.YteibhcocldihbaaDoor
open Go.RowKit
section
variable {P : Program} {ops : Array Oper} {md : Region.Mode} {C : World → Prop}
def wpAnyQL (P : Program) (md : Region.Mode) (ops : Array Oper) (C : World → Prop) (n : Nat) (L : Array Bool → Act → Prop) : Nat → Array Bool → Act → Prop
  | 0, listed, a => L listed a
  | f + 1, listed, a =>
    Region.ready md ops listed ≠ [] ∧ ∀ i ∈ Region.ready md ops listed, i < n ∧ qOp P ops C i (wpAnyQL P md ops C n L f (listed.setIfInBounds i true)) a
theorem wpAny_of_headQ {n g : Nat} {L : Array Bool → Act → Prop} {Q' : Exit → Act → World → Prop} (hL : ∀ listed a w, C w → L listed a → wpAny P md ops Q' g listed a w) :
    ∀ (f : Nat) (listed : Array Bool) (a : Act) (w : World), C w → wpAnyQL P md ops C n L f listed a → wpAny P md ops Q' (f + g) listed a w
  | 0, listed, a, w, hw, h => by rw [Nat.zero_add]; exact hL _ _ _ hw h
  | f + 1, listed, a, w, hw, h => by
    rw [show f + 1 + g = (f + g) + 1 by omega]
    exact ⟨fun h0 => absurd h0 h.1, fun i hi => wpOp_of_qOp hw (fun a' w' hw' h' => wpAny_of_headQ hL f _ a' w' hw' h') (h.2 i hi).2⟩
theorem wpAnyQL_first {n i : Nat} {oi : Oper} {v : Value} {L : Array Bool → Act → Prop} (hi : ops[i]? = some oi) (hsel : ∀ (j : Nat) (o : Oper) cs b, ops[j]? = some o → o.op ≠ .select cs b)
    (hs : Region.sinkB md ops n = true) (hc : Region.chainB md ops n = true) (hn : n < ops.size) (hin : i < n)
    (hdone : ∀ listed a, L listed a → ∀ j ∈ Region.ready md ops listed, n ≤ j) :
    ∀ (f : Nat) (listed : Array Bool) (a : Act), HeadInv md ops n listed →
      (∀ j oj, ops[j]? = some oj → j ≠ i → listed.getD j true = false → (∀ e ∈ oj.after, Region.binds md e = true → e.on ≠ i) → oi.apart ops oj = true) →
      i ∈ Region.ready md ops listed → YieldsIn P ops C oi v a →
      wpAnyQL P md ops C n L f (listed.setIfInBounds i true) (a.put oi.dst v) → wpAnyQL P md ops C n L (f + 1) listed a := by
  intro f
  induction f with
  | zero =>
    intro listed a inv _ hr hy H
    have hun := (mem_ready.1 hr).1
    refine ⟨fun h => (by rw [h] at hr; cases hr), fun j hj => ?_⟩
    have hjn : j < n := by
      rcases Nat.lt_or_ge j n with h | h
      · exact h
      · exact absurd hj (tail_waits hs hc hn inv _ i rfl hin hun j h)
    refine ⟨hjn, ?_⟩
    by_cases hji : j = i
    · subst hji; exact hy.qOp hi H
    · have := hdone _ _ H j (ready_mono hj hji)
      omega
  | succ f ih =>
    intro listed a inv hfree hr hy H
    have hun := (mem_ready.1 hr).1
    refine ⟨fun h => (by rw [h] at hr; cases hr), fun j hj => ?_⟩
    have hjn : j < n := by
      rcases Nat.lt_or_ge j n with h | h
      · exact h
      · exact absurd hj (tail_waits hs hc hn inv _ i rfl hin hun j h)
    refine ⟨hjn, ?_⟩
    by_cases hji : j = i
    · subst hji; exact hy.qOp hi H
    · have h1 := (H.2 j (ready_mono hj hji)).2
      obtain ⟨hjun, oj, hoj, hall⟩ := mem_ready.1 hj
      have hnot : ∀ e ∈ oj.after, Region.binds md e = true → e.on ≠ i := fun e he hb heq => by
        have h1 := hall e he hb
        rw [heq, getD_both hun] at h1
        cases h1
      have h2 := qOp_put hoj (hfree j oj hoj hji hjun hnot) (fun cs b => hsel i oi cs b hi) (fun cs b => hsel j oj cs b hoj) hy h1
      have hfree' : ∀ k ok, ops[k]? = some ok → k ≠ i → (listed.setIfInBounds j true).getD k true = false →
          (∀ e ∈ ok.after, Region.binds md e = true → e.on ≠ i) → oi.apart ops ok = true := fun k ok hk hki hun hno => by
        refine hfree k ok hk hki ?_ hno
        by_cases hjk : j = k
        · subst hjk; exact hjun
        · rw [getD_set_ne true hjk] at hun; exact hun
      refine qOp_mono (fun a' h3 => ih (listed.setIfInBounds j true) a' (inv.set hj hjn) hfree' (ready_mono hr (Ne.symm hji)) h3.1 ?_) h2
      rw [Array.setIfInBounds_comm _ _ hji]
      exact h3.2
theorem wpAnyQL_lex {n g : Nat} {Lq : Act → Prop} (hsel : Region.noSelect ops = true) (hs : Region.sinkB md ops n = true) (hc : Region.chainB md ops n = true) (hn : n < ops.size) :
    ∀ (l : List Oper) (k : Nat) (listed : Array Bool) (a : Act), (∀ j, j < l.length → l[j]? = ops[k + j]?) → k + l.length = n → HeadInv md ops n listed →
    Region.lexHead md ops g l.length k listed = true → wpQuiet P ops C Lq l a →
    wpAnyQL P md ops C n (fun listed' a' => Region.seqB md ops g n listed' = true ∧ Lq a') l.length listed a
  | [], k, listed, a, _, hk, _, hB, h => by
    have : k = n := by simpa using hk
    subst this
    exact ⟨by simpa [Region.lexHead] using hB, h⟩
  | o :: l, k, listed, a, hl, hk, inv, hB, h => by
    have h0 : ops[k]? = some o := by simpa using (hl 0 (by simp)).symm
    simp only [List.length_cons, Region.lexHead, Bool.and_eq_true] at hB
    obtain ⟨⟨hr, hf⟩, hB'⟩ := hB
    have hkn : k < n := by simp only [List.length_cons] at hk; omega
    have hr' : k ∈ Region.ready md ops listed := by simpa using hr
    have hst : qOp P ops C k (wpQuiet P ops C Lq l) a := by unfold qOp; simp only [h0]; exact h
    obtain ⟨v, hy, hK⟩ := yieldsIn_of_qOp h0 hst
    exact wpAnyQL_first h0 (Region.noSelect_spec hsel) hs hc hn hkn (fun listed' a' hL => seqB_ready hL.1) l.length listed a inv (Region.free_spec h0 hf) hr' hy
      (wpAnyQL_lex hsel hs hc hn l (k + 1) _ _ (fun j hj => by have := hl (j + 1) (by simp; omega); simpa [Nat.add_assoc, Nat.add_comm 1 j] using this) (by simp only [List.length_cons] at hk; omega) (inv.set hr' hkn) hB' hK)
theorem wp_region_quiet_tail {id : Nat} {Q : Exit → Act → World → Prop} {a : Act} {w : World} {l : List Oper} (n : Nat) (hm : P.follows .mixedOrders = true) (hB : Region.lexTailB .any l.toArray n = true) (hC : C { w with drawn := w.drawn + 1 })
    (h : wpQuiet P l.toArray C (fun a' => ∀ w', C w' → wpList P l.toArray Q (l.drop n) a' w') (l.take n) a) : (Code.region id l.toArray true).wp P Q a w := by
  simp only [Region.lexTailB, Bool.and_eq_true, decide_eq_true_eq] at hB
  obtain ⟨⟨⟨⟨hsel, hn⟩, hs⟩, hc⟩, hlex⟩ := hB
  have hn' : n < l.length := by simpa using hn
  have htl : (l.take n).length = n := by simp; omega
  have hdl : (l.drop n).length = l.toArray.size - n := by simp
  have inv0 : HeadInv .any l.toArray n (Array.replicate l.toArray.size false) :=
    ⟨by simp, fun j oj _ hl => (by rw [getD_replicate_false] at hl; cases hl), fun t _ ht => getD_in (by simpa using ht) (getD_replicate_false _ _)⟩
  have H := wpAnyQL_lex (C := C) (md := .any) (g := l.toArray.size - n) hsel hs hc hn (l.take n) 0 _ a (fun j hj => by
    have hj' : j < n := by rw [htl] at hj; exact hj
    simp [hj']) (by simpa using htl) inv0 (by rw [htl]; exact hlex) h
  refine wp_region_any hm ?_
  have := wpAny_of_headQ (Q' := Q) (g := l.toArray.size - n) (fun listed a' w' hw' hL => by
    have := wpAny_of_seq (md := .any) (Q' := Q) (l.drop n) n listed a' w' (fun j => by simp [List.getElem?_drop]) (by rw [hdl]; exact hL.1) (hL.2 w' hw')
    rwa [hdl] at this) _ _ _ _ hC H
  rw [htl, show n + (l.toArray.size - n) = l.toArray.size by omega] at this
  exact this
/-- The class 'what was there stays', and a tail. -/
theorem wp_region_ext_tail {id : Nat} {Q : Exit → Act → World → Prop} {a : Act} {w : World} {l : List Oper} (n : Nat) (hm : P.follows .mixedOrders = true) (hB : Region.lexTailB .any l.toArray n = true)
    (h : wpQuiet P l.toArray (fun w' => ∃ x : Ext w, w' = x.val) (fun a' => ∀ w', (∃ x : Ext w, w' = x.val) → wpList P l.toArray Q (l.drop n) a' w') (l.take n) a) : (Code.region id l.toArray true).wp P Q a w :=
  wp_region_quiet_tail (C := fun w' => ∃ x : Ext w, w' = x.val) n hm hB ⟨Ext.drew w, rfl⟩ h
/-- Each operation but the first, ahead of the tail, is waited for. -/
def sink1 (md : Region.Mode) (ops : Array Oper) (n : Nat) : Bool :=
  (List.range n).all fun i => decide (i = 0) || (List.range (n + 1)).any fun j => decide (i < j) && Region.waitsFor md ops j i
theorem getD_keep {listed : Array Bool} {i j : Nat} (h : listed.getD i true = true) : (listed.setIfInBounds j true).getD i true = true := by
  by_cases e : j = i
  · subst e
    rcases Nat.lt_or_ge j listed.size with h' | h'
    · simp [h']
    · simp [Array.getElem?_eq_none h']
  · rw [getD_set_ne true e]; exact h
theorem tail_waits1 {n : Nat} {listed : Array Bool} (hs : sink1 md ops n = true) (hc : Region.chainB md ops n = true) (hn : n < ops.size) (inv : HeadInv md ops n listed) (h0l : listed.getD 0 true = true) :
    ∀ (d i : Nat), n - i = d → i < n → listed.getD i true = false → ∀ t, n ≤ t → t ∉ Region.ready md ops listed := by
  intro d
  induction d using Nat.strongRecOn with
  | _ d ih =>
    intro i hd hi hun t ht hr
    have hi0 : i ≠ 0 := fun e => by rw [e, h0l] at hun; cases hun
    obtain ⟨_, ot, hot, hall⟩ := mem_ready.1 hr
    have htlt : t < ops.size := (Array.getElem?_eq_some_iff.1 hot).1
    by_cases htn : t = n
    · subst htn
      have h1 := List.all_eq_true.1 hs i (List.mem_range.2 hi)
      simp only [Bool.or_eq_true, decide_eq_true_eq, hi0, false_or] at h1
      obtain ⟨j, hj, hj2⟩ := List.any_eq_true.1 h1
      simp only [Bool.and_eq_true, decide_eq_true_eq] at hj2
      obtain ⟨oj, hoj, e, he, hb, hon⟩ := Region.waitsFor_spec hj2.2
      have hjle : j ≤ t := by have := List.mem_range.1 hj; omega
      by_cases hjt : j = t
      · subst hjt
        have : oj = ot := Option.some.inj (hoj.symm.trans hot)
        subst this
        have h2 := hall e he hb
        rw [hon, getD_both hun] at h2
        cases h2
      · cases hl : listed.getD j false with
        | true =>
          have h2 := inv.closed j oj hoj hl e he hb
          rw [hon, getD_both hun] at h2
          cases h2
        | false =>
          have hjs : j < listed.size := by rw [inv.size]; omega
          exact ih (t - j) (by omega) j rfl (by omega) (getD_in hjs hl) t (Nat.le_refl _) hr
    · have h1 := List.all_eq_true.1 hc t (List.mem_range.2 htlt)
      simp only [Bool.or_eq_true, decide_eq_true_eq] at h1
      rcases h1 with h1 | h1
      · omega
      · obtain ⟨o', ho', e, he, hb, hon⟩ := Region.waitsFor_spec h1
        have : o' = ot := Option.some.inj (ho'.symm.trans hot)
        subst this
        have h2 := hall e he hb
        rw [hon, getD_both (inv.tail (t - 1) (by omega) (by omega))] at h2
        cases h2
theorem wpAnyQL_first1 {n i : Nat} {oi : Oper} {v : Value} {L : Array Bool → Act → Prop} (hi : ops[i]? = some oi) (hsel : ∀ (j : Nat) (o : Oper) cs b, ops[j]? = some o → o.op ≠ .select cs b)
    (hs : sink1 md ops n = true) (hc : Region.chainB md ops n = true) (hn : n < ops.size) (hin : i < n)
    (hdone : ∀ listed a, L listed a → ∀ j ∈ Region.ready md ops listed, n ≤ j) :
    ∀ (f : Nat) (listed : Array Bool) (a : Act), HeadInv md ops n listed → listed.getD 0 true = true →
      (∀ j oj, ops[j]? = some oj → j ≠ i → listed.getD j true = false → (∀ e ∈ oj.after, Region.binds md e = true → e.on ≠ i) → oi.apart ops oj = true) →
      i ∈ Region.ready md ops listed → YieldsIn P ops C oi v a →
      wpAnyQL P md ops C n L f (listed.setIfInBounds i true) (a.put oi.dst v) → wpAnyQL P md ops C n L (f + 1) listed a := by
  intro f
  induction f with
  | zero =>
    intro listed a inv h0l _ hr hy H
    have hun := (mem_ready.1 hr).1
    refine ⟨fun h => (by rw [h] at hr; cases hr), fun j hj => ?_⟩
    have hjn : j < n := by
      rcases Nat.lt_or_ge j n with h | h
      · exact h
      · exact absurd hj (tail_waits1 hs hc hn inv h0l _ i rfl hin hun j h)
    refine ⟨hjn, ?_⟩
    by_cases hji : j = i
    · subst hji; exact hy.qOp hi H
    · have := hdone _ _ H j (ready_mono hj hji)
      omega
  | succ f ih =>
    intro listed a inv h0l hfree hr hy H
    have hun := (mem_ready.1 hr).1
    refine ⟨fun h => (by rw [h] at hr; cases hr), fun j hj => ?_⟩
    have hjn : j < n := by
      rcases Nat.lt_or_ge j n with h | h
      · exact h
      · exact absurd hj (tail_waits1 hs hc hn inv h0l _ i rfl hin hun j h)
    refine ⟨hjn, ?_⟩
    by_cases hji : j = i
    · subst hji; exact hy.qOp hi H
    · have h1 := (H.2 j (ready_mono hj hji)).2
      obtain ⟨hjun, oj, hoj, hall⟩ := mem_ready.1 hj
      have hnot : ∀ e ∈ oj.after, Region.binds md e = true → e.on ≠ i := fun e he hb heq => by
        have h1 := hall e he hb
        rw [heq, getD_both hun] at h1
        cases h1
      have h2 := qOp_put hoj (hfree j oj hoj hji hjun hnot) (fun cs b => hsel i oi cs b hi) (fun cs b => hsel j oj cs b hoj) hy h1
      have hfree' : ∀ k ok, ops[k]? = some ok → k ≠ i → (listed.setIfInBounds j true).getD k true = false →
          (∀ e ∈ ok.after, Region.binds md e = true → e.on ≠ i) → oi.apart ops ok = true := fun k ok hk hki hun hno => by
        refine hfree k ok hk hki ?_ hno
        by_cases hjk : j = k
        · subst hjk; exact hjun
        · rw [getD_set_ne true hjk] at hun; exact hun
      refine qOp_mono (fun a' h3 => ih (listed.setIfInBounds j true) a' (inv.set hj hjn) (getD_keep h0l) hfree' (ready_mono hr (Ne.symm hji)) h3.1 ?_) h2
      rw [Array.setIfInBounds_comm _ _ hji]
      exact h3.2
theorem wpAnyQL_lex1 {n g : Nat} {Lq : Act → Prop} (hsel : Region.noSelect ops = true) (hs : sink1 md ops n = true) (hc : Region.chainB md ops n = true) (hn : n < ops.size) :
    ∀ (l : List Oper) (k : Nat) (listed : Array Bool) (a : Act), (∀ j, j < l.length → l[j]? = ops[k + j]?) → k + l.length = n → HeadInv md ops n listed → listed.getD 0 true = true →
    Region.lexHead md ops g l.length k listed = true → wpQuiet P ops C Lq l a →
    wpAnyQL P md ops C n (fun listed' a' => Region.seqB md ops g n listed' = true ∧ Lq a') l.length listed a
  | [], k, listed, a, _, hk, _, _, hB, h => by
    have : k = n := by simpa using hk
    subst this
    exact ⟨by simpa [Region.lexHead] using hB, h⟩
  | o :: l, k, listed, a, hl, hk, inv, h0l, hB, h => by
    have h0 : ops[k]? = some o := by simpa using (hl 0 (by simp)).symm
    simp only [List.length_cons, Region.lexHead, Bool.and_eq_true] at hB
    obtain ⟨⟨hr, hf⟩, hB'⟩ := hB
    have hkn : k < n := by simp only [List.length_cons] at hk; omega
    have hr' : k ∈ Region.ready md ops listed := by simpa using hr
    have hst : qOp P ops C k (wpQuiet P ops C Lq l) a := by unfold qOp; simp only [h0]; exact h
    obtain ⟨v, hy, hK⟩ := yieldsIn_of_qOp h0 hst
    exact wpAnyQL_first1 h0 (Region.noSelect_spec hsel) hs hc hn hkn (fun listed' a' hL => seqB_ready hL.1) l.length listed a inv h0l (Region.free_spec h0 hf) hr' hy
      (wpAnyQL_lex1 hsel hs hc hn l (k + 1) _ _ (fun j hj => by have := hl (j + 1) (by simp; omega); simpa [Nat.add_assoc, Nat.add_comm 1 j] using this) (by simp only [List.length_cons] at hk; omega) (inv.set hr' hkn) (getD_keep h0l) hB' hK)
def lexTail1B (md : Region.Mode) (ops : Array Oper) (n : Nat) : Bool :=
  Region.noSelect ops && (decide (1 ≤ n) && (decide (n < ops.size) && (sink1 md ops n && (Region.chainB md ops n && (Region.free md ops (Array.replicate ops.size false) 0 && ((Region.ready md ops (Array.replicate ops.size false)).contains 0 &&
    (((ops[0]?).map fun o => o.after.isEmpty).getD false && Region.lexHead md ops (ops.size - n) (n - 1) 1 ((Array.replicate ops.size false).setIfInBounds 0 true))))))))
/-- The class 'what was there stays', a tail, and a first operation that is a copy and may come up at any time. -/
theorem wp_region_ext_tail1 {id : Nat} {Q : Exit → Act → World → Prop} {a : Act} {w : World} {l : List Oper} {d : Option Tmp} {x : Operand} {t' : TypeId} {pos : String} {after : Array Edge} {r : List Oper} (n : Nat) (hl : l = ⟨d, .move x, t', pos, after, none⟩ :: r) (hm : P.follows .mixedOrders = true) (hB : lexTail1B .any l.toArray n = true)
    (hQ : ∀ c a' w', Q (.panic c) (a'.put d (a.eval x)) w' → Q (.panic c) a' w')
    (h : wpQuiet P l.toArray (fun w' => ∃ y : Ext w, w' = y.val) (fun a' => ∀ w', (∃ y : Ext w, w' = y.val) → wpList P l.toArray Q (l.drop n) a' w') ((l.take n).drop 1) (a.put d (a.eval x))) : (Code.region id l.toArray true).wp P Q a w := by
  simp only [lexTail1B, Bool.and_eq_true, decide_eq_true_eq] at hB
  obtain ⟨hsel, h1n, hn, hs, hc, hfree, hready, hemp, hlex⟩ := hB
  have hn' : n < l.length := by simpa using hn
  have h0 : l.toArray[0]? = some ⟨d, .move x, t', pos, after, none⟩ := by rw [hl]; rfl
  have htl : ((l.take n).drop 1).length = n - 1 := by simp; omega
  have hdl : (l.drop n).length = l.toArray.size - n := by simp
  refine wp_region_any hm ?_
  have hsz : l.toArray.size = (l.toArray.size - 1) + 1 := by simp; omega
  rw [hsz]
  refine wpAny_take (v := a.eval x) h0 hsel (by rw [← hsz]; exact hfree) (by rw [← hsz]; exact hready) hQ (.inl ⟨rfl, fun W => BigFrame.run_move x rfl W⟩) ?_
  rw [← hsz]
  have inv1 : HeadInv .any l.toArray n ((Array.replicate l.toArray.size false).setIfInBounds 0 true) := by
    refine ⟨by simp, fun j oj hj hlj e he hb => ?_, fun t ht ht' => ?_⟩
    · by_cases ej : j = 0
      · subst ej
        rw [h0] at hj hemp
        obtain rfl := Option.some.inj hj
        simp only [Option.map_some, Option.getD_some, Array.isEmpty_iff] at hemp
        exfalso
        rw [show (⟨d, .move x, t', pos, after, none⟩ : Oper).after = after from rfl] at he
        have hemp' : after = #[] := hemp
        rw [hemp'] at he
        simp at he
      · rw [getD_set_ne false (fun e' => ej e'.symm), getD_replicate_false] at hlj
        cases hlj
    · rw [getD_set_ne true (by omega)]
      exact getD_in (by simpa using ht') (getD_replicate_false _ _)
  have h0l : ((Array.replicate l.toArray.size false).setIfInBounds 0 true).getD 0 true = true := by
    have : 0 < l.toArray.size := by simp; omega
    simp [this]
  have H := wpAnyQL_lex1 (C := fun w' => ∃ y : Ext w, w' = y.val) (md := .any) (g := l.toArray.size - n) hsel hs hc hn ((l.take n).drop 1) 1 _ _ (fun j hj => by
    have hj' : j < n - 1 := by rw [htl] at hj; exact hj
    rw [List.getElem?_drop, List.getElem?_take_of_lt (by omega)]
    simp) (by rw [htl]; omega) inv1 h0l (by rw [htl]; exact hlex) h
  have := wpAny_of_headQ (Q' := Q) (g := l.toArray.size - n) (fun listed a' w' hw' hL => by
    have := wpAny_of_seq (md := .any) (Q' := Q) (l.drop n) n listed a' w' (fun j => by simp [List.getElem?_drop]) (by rw [hdl]; exact hL.1) (hL.2 w' hw')
    rwa [hdl] at this) _ _ _ { w with drawn := w.drawn + 1 } ⟨Ext.drew w, rfl⟩ H
  rw [htl, show n - 1 + (l.toArray.size - n) = l.toArray.size - 1 by simp; omega] at this
  exact this
theorem Calls.ext_eq {f : FuncId} {args : Array Value} {w : World} {v : Value} (x : Ext w) (h : Calls P f args x.val fun e w' => e = .returned v ∧ w' = x.val) :
    Calls P f args x.val fun e w'' => e = .returned v ∧ ∃ y : Ext w, w'' = y.val :=
  h.mono fun _ _ ⟨he, hw⟩ => ⟨he, x, hw⟩
/-- Two boxes: what they hold. -/
theorem two_boxes (w : World) (C D : Array Value) (t u : TypeId) : ∀ W, W = (w.alloc (.cells C t)).alloc (.cells D u) →
    (∀ j, W.cell? ⟨w.heap.size, j, none⟩ = C[j]?) ∧ (∀ j, W.cell? ⟨w.heap.size + 1, j, none⟩ = D[j]?) ∧ (∀ j, W.frozen? ⟨w.heap.size, j, none⟩ = false) ∧ (∀ j, W.frozen? ⟨w.heap.size + 1, j, none⟩ = false) ∧
      w.heap.size < W.heap.size ∧ w.heap.size + 1 < W.heap.size ∧ Below w.heap.size w W := by
  rintro W rfl
  have hs : (w.alloc (.cells C t)).heap.size = w.heap.size + 1 := by simp
  refine ⟨fun j => ?_, fun j => ?_, fun j => ?_, fun j => ?_, by simp; omega, by simp, ((Below.refl _ w).alloc (Nat.le_refl _) _).alloc (by simp) _⟩
  · rw [World.cell?_alloc_lt _ _ _ (by rw [hs]; exact Nat.lt_succ_self _), World.cell?_alloc_mark]
  · rw [← hs, World.cell?_alloc_mark]
  · rw [((Below.refl (w.alloc (.cells C t)).heap.size (w.alloc (.cells C t))).alloc (Nat.le_refl _) _).frozen (p := ⟨w.heap.size, j, none⟩) (by rw [hs]; exact Nat.lt_succ_self _), World.frozen?_alloc_mark]; simp
  · rw [← hs, World.frozen?_alloc_mark]; simp
theorem one_box (w : World) (C : Array Value) (t : TypeId) : ∀ W, W = w.alloc (.cells C t) →
    (∀ j, W.cell? ⟨w.heap.size, j, none⟩ = C[j]?) ∧ (∀ j, W.frozen? ⟨w.heap.size, j, none⟩ = false) ∧ w.heap.size < W.heap.size ∧ Below w.heap.size w W := by
  rintro W rfl
  exact ⟨fun j => World.cell?_alloc_mark .., fun j => by rw [World.frozen?_alloc_mark]; simp, by simp, (Below.refl _ w).alloc (Nat.le_refl _) _⟩
end
end Go.Proofs.YteibhcocldihbaaDoor
namespace Go.Proofs.YteibhcocldihbaaDoor
open Go.RowKit
section
variable {P : Program}
theorem there_of {w : World} {g n : Nat} {C : Array Value} (hc : ∀ j, w.cell? ⟨g, j, none⟩ = C[j]?) (hf : ∀ j, w.frozen? ⟨g, j, none⟩ = false) (hn : C.size = n) : w.there g 0 n := by
  intro j hj
  rw [Nat.zero_add, hc, hf, Array.getElem?_eq_getElem (by omega)]
  exact ⟨rfl, rfl⟩
theorem range_of {w : World} {g : Nat} {cs : List Value} (hc : ∀ j, w.cell? ⟨g, j, none⟩ = cs.toArray[j]?) : w.rangeAt g 0 cs := by
  intro j v hv
  rw [Nat.zero_add, hc]
  simpa using hv
theorem Below.setCells {B g : Nat} {w : World} (hg : B ≤ g) : ∀ (cs : List Value) (o : Nat) {w' : World}, Below B w w' → Below B w (w'.setCells g o cs)
  | [], _, _, h => h
  | v :: r, o, _, h => Below.setCells hg r (o + 1) (h.setCell (by exact hg) v)
theorem rangeAt_below {B g o : Nat} {w w' : World} {cs : List Value} (h : w.rangeAt g o cs) (hb : Below B w w') (hg : g < B) : w'.rangeAt g o cs :=
  fun j v hv => (hb.cell (p := ⟨g, o + j, none⟩) hg).trans (h j v hv)
theorem there_below {B g o n : Nat} {w w' : World} (h : w.there g o n) (hb : Below B w w') (hg : g < B) : w'.there g o n :=
  fun j hj => by rw [hb.cell (p := ⟨g, o + j, none⟩) hg, hb.frozen (p := ⟨g, o + j, none⟩) hg]; exact h j hj
/-- The result lies in memory: a return. -/
theorem ret_cell {fn : Func} {R : Ending → World → Prop} {a : Act} {w : World} {p : Tmp} {ty : TypeId} (h : fn.results = #[.cell p ty]) {g : Nat} (hp : a.tmps.getD p undef = .pointer (some ⟨g, 0, none⟩)) {cs : List Value} {d : TypeDesc}
    (hr : w.rangeAt g 0 cs) (hu : P.underlying ty = some d) (hd : d.isRow = true) (hi : (P.info? ty).map (·.size) = some cs.length) (hdef : a.defers = []) (hR : R (.returned (.agg cs.toArray)) w) : bodyPost P fn R .ret a w := by
  refine ⟨hdef, .agg cs.toArray, ?_, hR⟩
  have hp' : a.tmps[p]?.getD undef = .pointer (some ⟨g, 0, none⟩) := by simpa using hp
  simp [results, h, hp', asAddr, run_loadVar_mid w g 0 ty cs d hr hu hd hi]
/-- A whole store: the world behind it by what is known of it. -/
theorem wpList_store_tmp {ops : Array Oper} {rest : List Oper} {ty : TypeId} {p q : Tmp} {t' : TypeId} {pos : String} {after : Array Edge} {a : Act} {w : World} {Q : Exit → Act → World → Prop} {b : Nat} (cs : List Value)
    (hx : a.eval (.tmp p) = .pointer (some ⟨b, 0, none⟩)) (hy : a.eval (.tmp q) = .agg cs.toArray) (ht : w.there b 0 cs.length) (hi : (P.info? ty).map (·.size) = some cs.length) (h1 : ∀ v ∈ cs, v.oneCell' = true)
    (h : ∀ W, W.rangeAt b 0 cs → (∀ B w0, B ≤ b → Below B w0 w → Below B w0 W) → (∀ g o cs, g ≠ b → w.rangeAt g o cs → W.rangeAt g o cs) → wpList P ops Q rest a W) :
    wpList P ops Q (⟨none, .store ty (.tmp p) (.tmp q), t', pos, after, none⟩ :: rest) a w := by
  refine wpList_store_mid rfl ty (.tmp p) (.tmp q) rfl b 0 cs.toArray hx hy ht hi (all_oneCell_toArray h1) ?_
  refine h _ (World.rangeAt_setCells_same _ _ _ _ (by simpa using ht)) (fun B w0 hB hb => Below.setCells hB _ _ hb) (fun g o cs hg hr => World.rangeAt_setCells_apart hr _ _ _ (.inl hg))
/-- Nothing but block b has turned, and none is new. -/
structure Only (b : Nat) (w W : World) : Prop where
  os : W.os = w.os
  tape : W.tape = w.tape
  output : W.output = w.output
  size : W.heap.size = w.heap.size
  block : ∀ k, k ≠ b → W.heap[k]? = w.heap[k]?
theorem Only.cell {b : Nat} {w W : World} (h : Only b w W) {g o : Nat} (hne : g ≠ b) : W.cell? ⟨g, o, none⟩ = w.cell? ⟨g, o, none⟩ := World.cell?_of_block (w := w) (h.block g hne)
theorem Only.frozen {b : Nat} {w W : World} (h : Only b w W) {g o : Nat} (hne : g ≠ b) : W.frozen? ⟨g, o, none⟩ = w.frozen? ⟨g, o, none⟩ := World.frozen?_of_block (w := w) (h.block g hne)
theorem Only.below {B b : Nat} {w0 w W : World} (h : Only b w W) (hB : B ≤ b) (hb : Below B w0 w) : Below B w0 W :=
  ⟨h.os.trans hb.os, h.tape.trans hb.tape, h.output.trans hb.output, by rw [h.size]; exact hb.size, fun k hk => (h.block k (by omega)).trans (hb.block k hk)⟩
theorem Only.setCells {b : Nat} {w : World} : ∀ (cs : List Value) (o : Nat) {W : World}, Only b w W → Only b w (W.setCells b o cs)
  | [], _, _, h => h
  | v :: r, o, W, h => Only.setCells r (o + 1) ⟨h.os, h.tape, h.output, by rw [← h.size]; simp [World.setCell], fun k hk => (Below.heap_setCell _ _ _ _ hk).trans (h.block k hk)⟩
theorem Only.fresh {w W : World} {o : Obj} (h : Only w.heap.size (w.alloc o) W) : Below w.heap.size w W ∧ w.heap.size < W.heap.size :=
  ⟨h.below (Nat.le_refl _) ((Below.refl _ w).alloc (Nat.le_refl _) _), by rw [h.size]; simp⟩
/-- A block that is known whole. -/
structure Box (w : World) (g : Nat) (L : List Value) : Prop where
  cell : ∀ j, w.cell? ⟨g, j, none⟩ = L.toArray[j]?
  frozen : ∀ j, w.frozen? ⟨g, j, none⟩ = false
theorem Box.below {B g : Nat} {w W : World} {L : List Value} (h : Box w g L) (hb : Below B w W) (hg : g < B) : Box W g L :=
  ⟨fun j => (hb.cell (p := ⟨g, j, none⟩) hg).trans (h.cell j), fun j => (hb.frozen (p := ⟨g, j, none⟩) hg).trans (h.frozen j)⟩
theorem Box.only {b g : Nat} {w W : World} {L : List Value} (h : Box w g L) (ho : Only b w W) (hg : g ≠ b) : Box W g L :=
  ⟨fun j => (ho.cell hg).trans (h.cell j), fun j => (ho.frozen hg).trans (h.frozen j)⟩
theorem Box.there {w : World} {g n : Nat} {L : List Value} (h : Box w g L) (o : Nat) (hn : o + n ≤ L.length) : w.there g o n := by
  intro j hj
  rw [h.cell, h.frozen]
  simp [show o + j < L.length by omega]
theorem Box.range {w : World} {g : Nat} {L : List Value} (h : Box w g L) : w.rangeAt g 0 L := range_of h.cell
theorem Box.new (w : World) (L : List Value) (t : TypeId) : Box (w.alloc (.cells L.toArray t)) w.heap.size L :=
  ⟨(one_box w L.toArray t _ rfl).1, (one_box w L.toArray t _ rfl).2.1⟩
theorem run_storeVar_any (w : World) (b o : Nat) (ty : TypeId) (v : Value) (cs : List Value) (hv : v.cells = cs.toArray) (ht : w.there b o cs.length) (hi : (P.info? ty).map (·.size) = some cs.length) (h1 : ∀ v ∈ cs, v.oneCell' = true) :
    (storeVar ty ⟨b, o, none⟩ v).run P w = .ok () (w.setCells b o cs) := by
  have := run_storeCells_cells (P := P) b o cs 0 w (fun j hj => by simpa using (ht j (by simpa using hj)).1) (fun j hj => by simpa using (ht j (by simpa using hj)).2) h1
  cases hq : P.info? ty with
  | none => simp [hq] at hi
  | some i =>
    have hs : cs.length = i.size := by simp [hq] at hi; omega
    simp only [Nat.add_zero] at this
    simp [storeVar, sizeOf, typeInfo, hq, hv, hs, this]
theorem Box.set {w : World} {b : Nat} {L : List Value} (h : Box w b L) (o : Nat) (cs : List Value) (ho : o + cs.length ≤ L.length) : Box (w.setCells b o cs) b (L.take o ++ (cs ++ L.drop (o + cs.length))) := by
  refine ⟨fun j => ?_, fun j => ?_⟩
  · by_cases hj : o ≤ j ∧ j < o + cs.length
    · have h1 := World.cell?_setCells_in b cs o w (fun i hi => (h.there o ho i hi).1) (j - o) (by omega)
      rw [show o + (j - o) = j by omega] at h1
      rw [h1]
      simp only [List.getElem?_toArray]
      rw [List.getElem?_append_right (by simp; omega), List.getElem?_append_left (by simp; omega), List.length_take, Nat.min_eq_left (by omega), List.getElem?_eq_getElem]
    · rw [World.cell?_setCells_out b cs o w ⟨b, j, none⟩ (fun _ _ => by show j < o ∨ o + cs.length ≤ j; omega), h.cell]
      simp only [List.getElem?_toArray]
      by_cases hlt : j < o
      · rw [List.getElem?_append_left (by simp; omega), List.getElem?_take_of_lt hlt]
      · rw [List.getElem?_append_right (by simp; omega), List.getElem?_append_right (by simp; omega), List.getElem?_drop, List.length_take, Nat.min_eq_left (by omega)]
        congr 1; omega
  · rw [World.frozen?_setCells]; exact h.frozen j
/-- A store into a block that is known whole. -/
theorem wpList_store_box {ops : Array Oper} {rest : List Oper} {ty : TypeId} {p q : Tmp} {t' : TypeId} {pos : String} {after : Array Edge} {a : Act} {w : World} {Q : Exit → Act → World → Prop} {b o : Nat} (L cs : List Value)
    (hx : a.eval (.tmp p) = .pointer (some ⟨b, o, none⟩)) (hy : (a.eval (.tmp q)).cells = cs.toArray) (hB : Box w b L) (ho : o + cs.length ≤ L.length) (hi : (P.info? ty).map (·.size) = some cs.length) (h1 : ∀ v ∈ cs, v.oneCell' = true)
    (h : ∀ W, Box W b (L.take o ++ (cs ++ L.drop (o + cs.length))) → Only b w W → wpList P ops Q rest a W) :
    wpList P ops Q (⟨none, .store ty (.tmp p) (.tmp q), t', pos, after, none⟩ :: rest) a w := by
  have H := h _ (hB.set o cs ho) (Only.setCells cs o ⟨rfl, rfl, rfl, rfl, fun _ _ => rfl⟩)
  refine wpList_plain rfl fun _ hK => ?_
  unfold Oper.wp execOp
  simp only [hx, Instr.storeAt, Instr.sureAddr, Sem.run_bind, Sem.run_pure, Result.andThen_ok, run_storeVar_any w b o ty _ cs hy (hB.there o ho) hi h1]
  exact hK _ _ H
/-- A whole load out of a block that is known whole. -/
theorem wpList_load_box {ops : Array Oper} {rest : List Oper} {d : Tmp} {ty : TypeId} {p : Tmp} {t' : TypeId} {pos : String} {after : Array Edge} {a : Act} {w : World} {Q : Exit → Act → World → Prop} {b : Nat} {ds : TypeDesc} (L : List Value)
    (hx : a.eval (.tmp p) = .pointer (some ⟨b, 0, none⟩)) (hB : Box w b L) (hu : P.underlying ty = some ds) (hd : ds.isRow = true) (hi : (P.info? ty).map (·.size) = some L.length)
    (h : wpList P ops Q rest (a.put (some d) (.agg L.toArray)) w) :
    wpList P ops Q (⟨some d, .load ty (.tmp p), t', pos, after, none⟩ :: rest) a w :=
  wpList_load_mid rfl ty (.tmp p) rfl b 0 hx L ds hB.range hu hd hi h
/-- A load of a row of cells. -/
theorem wpList_load_rng {ops : Array Oper} {rest : List Oper} {d : Tmp} {ty : TypeId} {p : Tmp} {t' : TypeId} {pos : String} {after : Array Edge} {a : Act} {w : World} {Q : Exit → Act → World → Prop} {b o : Nat} {ds : TypeDesc} (L : List Value)
    (hx : a.eval (.tmp p) = .pointer (some ⟨b, o, none⟩)) (hB : w.rangeAt b o L) (hu : P.underlying ty = some ds) (hd : ds.isRow = true) (hi : (P.info? ty).map (·.size) = some L.length)
    (h : wpList P ops Q rest (a.put (some d) (.agg L.toArray)) w) :
    wpList P ops Q (⟨some d, .load ty (.tmp p), t', pos, after, none⟩ :: rest) a w :=
  wpList_load_mid rfl ty (.tmp p) rfl b o hx L ds hB hu hd hi h
/-- Three boxes: what they hold. -/
theorem three_boxes (w : World) (C D E : Array Value) (t u v : TypeId) : ∀ W, W = ((w.alloc (.cells C t)).alloc (.cells D u)).alloc (.cells E v) →
    (∀ j, W.cell? ⟨w.heap.size, j, none⟩ = C[j]?) ∧ (∀ j, W.cell? ⟨w.heap.size + 1, j, none⟩ = D[j]?) ∧ (∀ j, W.cell? ⟨w.heap.size + 1 + 1, j, none⟩ = E[j]?) ∧
    (∀ j, W.frozen? ⟨w.heap.size, j, none⟩ = false) ∧ (∀ j, W.frozen? ⟨w.heap.size + 1, j, none⟩ = false) ∧ (∀ j, W.frozen? ⟨w.heap.size + 1 + 1, j, none⟩ = false) ∧
      w.heap.size < W.heap.size ∧ w.heap.size + 1 < W.heap.size ∧ w.heap.size + 1 + 1 < W.heap.size ∧ Below w.heap.size w W := by
  rintro W rfl
  obtain ⟨h1, h2, h3, h4, h5, h6, h7⟩ := two_boxes w C D t u _ rfl
  have hs : ((w.alloc (.cells C t)).alloc (.cells D u)).heap.size = w.heap.size + 1 + 1 := by simp
  generalize (w.alloc (.cells C t)).alloc (.cells D u) = W at *
  have hb : Below W.heap.size W (W.alloc (.cells E v)) := (Below.refl _ W).alloc (Nat.le_refl _) _
  refine ⟨fun j => ?_, fun j => ?_, fun j => ?_, fun j => ?_, fun j => ?_, fun j => ?_, by simp; omega, by simp; omega, by simp; omega, h7.trans (hb.mono h7.size)⟩
  · rw [hb.cell (p := ⟨w.heap.size, j, none⟩) h5, h1]
  · rw [hb.cell (p := ⟨w.heap.size + 1, j, none⟩) h6, h2]
  · rw [← hs, World.cell?_alloc_mark]
  · rw [hb.frozen (p := ⟨w.heap.size, j, none⟩) h5, h3]
  · rw [hb.frozen (p := ⟨w.heap.size + 1, j, none⟩) h6, h4]
  · rw [← hs, World.frozen?_alloc_mark]; simp
end
end Go.Proofs.YteibhcocldihbaaDoor
namespace Go.Proofs.YteibhcocldihbaaDoor
open Go.RowKit
section
variable {P : Program}
/-- A block that is just these cells of a type, none of them frozen. -/
def Blk (w : World) (g : Nat) (t : TypeId) (L : List Value) : Prop := w.heap[g]? = some (.cells L.toArray t (0, 0))
theorem Blk.lt {w : World} {g : Nat} {t : TypeId} {L : List Value} (h : Blk w g t L) : g < w.heap.size := by
  rcases Nat.lt_or_ge g w.heap.size with hlt | hge
  · exact hlt
  · unfold Blk at h; rw [Array.getElem?_eq_none hge] at h; cases h
theorem Blk.box {w : World} {g : Nat} {t : TypeId} {L : List Value} (h : Blk w g t L) : Box w g L :=
  ⟨fun j => cell_of_row w g j L.toArray t (0, 0) h, fun j => by unfold Blk at h; simp [World.frozen?, h]⟩
theorem Blk.new (w : World) (L : List Value) (t : TypeId) : Blk (w.alloc (.cells L.toArray t)) w.heap.size t L := heap_alloc_new w _
theorem Blk.below {B g : Nat} {w W : World} {t : TypeId} {L : List Value} (h : Blk w g t L) (hb : Below B w W) (hg : g < B) : Blk W g t L := (hb.block g hg).trans h
theorem Blk.only {b g : Nat} {w W : World} {t : TypeId} {L : List Value} (h : Blk w g t L) (ho : Only b w W) (hg : g ≠ b) : Blk W g t L := (ho.block g hg).trans h
theorem Blk.set {t : TypeId} {b : Nat} : ∀ (cs : List Value) (o : Nat) {w : World} {L : List Value}, Blk w b t L → o + cs.length ≤ L.length → Blk (w.setCells b o cs) b t (L.take o ++ (cs ++ L.drop (o + cs.length)))
  | [], o, w, L, h, _ => by simpa [World.setCells] using h
  | v :: r, o, w, L, h, ho => by
    have ho' : o + 1 + r.length ≤ (L.set o v).length := by simp only [List.length_set]; simp only [List.length_cons] at ho; omega
    have h1 : Blk (w.setCell ⟨b, o, none⟩ v) b t (L.set o v) := by
      have := heap_setCell_same w b o L.toArray t v h
      unfold Blk
      rw [this]
      congr 2
      simp
    have ih := Blk.set r (o + 1) h1 ho'
    have e : (L.set o v).take (o + 1) ++ (r ++ (L.set o v).drop (o + 1 + r.length)) = L.take o ++ (v :: r ++ L.drop (o + (v :: r).length)) := by
      simp only [List.length_cons] at ho
      have hol : o < L.length := by omega
      have e1 : (L.set o v).take (o + 1) = L.take o ++ [v] := by
        rw [List.take_succ_eq_append_getElem (by simpa using hol)]
        simp [List.take_set_of_le]
      have e2 : (L.set o v).drop (o + 1 + r.length) = L.drop (o + (r.length + 1)) := by
        rw [List.drop_set_of_lt (by omega)]
        congr 1; omega
      rw [e1, e2]
      simp
    rw [← e]
    exact ih
/-- A store into a block that is known whole, with its type. -/
theorem wpList_store_blk {ops : Array Oper} {rest : List Oper} {ty : TypeId} {p q : Tmp} {t' : TypeId} {pos : String} {after : Array Edge} {a : Act} {w : World} {Q : Exit → Act → World → Prop} {b o : Nat} {t : TypeId} (L cs : List Value)
    (hx : a.eval (.tmp p) = .pointer (some ⟨b, o, none⟩)) (hy : (a.eval (.tmp q)).cells = cs.toArray) (hB : Blk w b t L) (ho : o + cs.length ≤ L.length) (hi : (P.info? ty).map (·.size) = some cs.length) (h1 : ∀ v ∈ cs, v.oneCell' = true)
    (h : ∀ W, Blk W b t (L.take o ++ (cs ++ L.drop (o + cs.length))) → Only b w W → wpList P ops Q rest a W) :
    wpList P ops Q (⟨none, .store ty (.tmp p) (.tmp q), t', pos, after, none⟩ :: rest) a w := by
  have H := h _ (hB.set cs o ho) (Only.setCells cs o ⟨rfl, rfl, rfl, rfl, fun _ _ => rfl⟩)
  refine wpList_plain rfl fun _ hK => ?_
  unfold Oper.wp execOp
  simp only [hx, Instr.storeAt, Instr.sureAddr, Sem.run_bind, Sem.run_pure, Result.andThen_ok, run_storeVar_any w b o ty _ cs hy (hB.box.there o ho) hi h1]
  exact hK _ _ H
/-- An element type that a slice may have. -/
def ElemOk (P : Program) (t e : TypeId) (size bytes : Nat) : Prop := P.underlying t = some (.slice e) ∧ ∃ i z, P.info? e = some i ∧ i.zero = some z ∧ i.size = size ∧ i.bytes = bytes ∧ z.cells.size = size ∧ 0 < size
theorem own_ne {w : World} {base : Nat} {e t : TypeId} {size n : Nat} {v : Value} {xs : List Value} {g : Nat} {L : List Value} (h : w.ownsRow base e size v n xs) (hg : Blk w g t L) (hne : e ≠ t) : some g ≠ v.ownBlock := by
  rcases h.2 with ⟨rfl, _⟩ | ⟨g', cap, cur, rfl, _, hh, _⟩
  · simp [Value.ownBlock]
  · intro he
    have : g = g' := by simpa [Value.ownBlock] using he
    subst this
    unfold Blk at hg
    rw [hg] at hh
    injection hh with hh
    injection hh with _ ht
    exact hne ht.symm
/-- 'append(s, x)' onto a row of one's own: what is known behind it. -/
structure Grew (base : Nat) (v : Value) (w W : World) : Prop where
  grown : w.grownBy W v.ownBlock
  own : ∀ k, v.ownBlock = some k → base ≤ k
  base : base ≤ w.heap.size
theorem Grew.below {base : Nat} {v : Value} {w0 w W : World} (h : Grew base v w W) (hb : Below base w0 w) : Below base w0 W :=
  ⟨h.grown.os.trans hb.os, h.grown.tape.trans hb.tape, h.grown.output.trans hb.output, Nat.le_trans hb.size h.grown.size, fun k hk =>
    (h.grown.block k (Nat.lt_of_lt_of_le hk h.base) (fun e => by have := h.own k e.symm; omega)).trans (hb.block k hk)⟩
theorem Grew.blk {base : Nat} {v : Value} {w W : World} {g : Nat} {t : TypeId} {L : List Value} (h : Grew base v w W) (hg : Blk w g t L) (hne : some g ≠ v.ownBlock) : Blk W g t L := (h.grown.block g hg.lt hne).trans hg
theorem wpList_append_row {ops : Array Oper} {rest : List Oper} {d s x : Tmp} {t t' : TypeId} {pos : String} {after : Array Edge} {a : Act} {w : World} {Q : Exit → Act → World → Prop} {e : TypeId} {size bytes base n m c g : Nat} {v : Value} (xs news : List Value)
    (E : ElemOk P t e size bytes) (hs : a.eval (.tmp s) = v) (hx : a.eval (.tmp x) = .slice (some ⟨g, 0, none⟩) m c) (hown : w.ownsRow base e size v n xs) (hr : w.rangeAt g 0 news) (hl : news.length = m * size) (h1 : ∀ u ∈ news, u.oneCell' = true)
    (h63 : n + m ≤ maxLen) (hbytes : (n + m) * bytes ≤ 140737488355328) (hbase : base ≤ w.heap.size)
    (h : ∀ v' W, W.ownsRow base e size v' (n + m) (xs ++ news) → Grew base v w W → wpList P ops Q rest (a.put (some d) v') W) :
    wpList P ops Q (⟨some d, .call { callee := .builtin .append, args := #[.tmp s, .tmp x], argTypes := #[t, t] }, t', pos, after, none⟩ :: rest) a w := by
  obtain ⟨ht, i, z, hi, hz, hsz, hby, hzs, hpos⟩ := E
  refine wpList_append_own w rfl (.tmp s) (.tmp x) t rfl base e i z size bytes ht hi hz hsz hby hzs hpos v n xs hs hown ⟨g, 0, none⟩ m c news hx hl ?_ h1 h63 hbytes hbase ?_
  · intro j u hj
    rw [Addr.add_mid]
    exact hr j u hj
  · intro v' W h2 h3 _
    exact h v' W h2 ⟨h3, fun k hk => (hown.lt k hk).1, hbase⟩
/-- A row of one's own, as a slice of rows. -/
theorem own_row {w : World} {base : Nat} {e : TypeId} {size n : Nat} {v : Value} {C : List (List Value)} (h : w.ownsRow base e size v n C.flatten) (hC : ∀ c ∈ C, c.length = size) (hn : C.length = n) :
    ∃ A cap, v = .slice A n cap ∧ n ≤ cap ∧ (0 < n → ∃ g, A = some ⟨g, 0, none⟩ ∧ base ≤ g ∧ g < w.heap.size ∧ ∀ (k : Nat) (hk : k < C.length), w.rangeAt g (k * size) C[k]) := by
  rcases h.2 with ⟨rfl, h0⟩ | ⟨g, cap, cur, rfl, hb, hh, hc, hm, hs, ht⟩
  · exact ⟨none, 0, by rw [h0], by omega, fun h => absurd h (by omega)⟩
  · refine ⟨some ⟨g, 0, none⟩, cap, rfl, hc, fun _ => ⟨g, rfl, hb, (Array.getElem?_eq_some_iff.1 hh).1, fun k hk j u hj => ?_⟩⟩
    have hj' : j < size := by rw [← hC _ (List.getElem_mem hk)]; exact (List.getElem?_eq_some_iff.1 hj).1
    rw [cell_of_row w g (k * size + j) cur e (0, 0) hh]
    have hkn : k * size + j < n * size := by
      have : (k + 1) * size ≤ n * size := Nat.mul_le_mul_right _ (by omega)
      rw [Nat.add_mul] at this; omega
    have e1 : cur[k * size + j]? = (cur.toList.take (n * size))[k * size + j]? := by
      rw [List.getElem?_take_of_lt hkn]; simp
    rw [e1, ht]
    have flat : ∀ (C : List (List Value)), (∀ c ∈ C, c.length = size) → ∀ (k : Nat) (hk : k < C.length), C.flatten[k * size + j]? = C[k][j]? := by
      intro C
      induction C with
      | nil => intro _ k hk; exact absurd hk (by simp)
      | cons c r ih =>
        intro hC k hk
        have hc := hC c (List.mem_cons_self ..)
        cases k with
        | zero => simp only [Nat.zero_mul, Nat.zero_add, List.flatten_cons, List.getElem_cons_zero]; rw [List.getElem?_append_left (by omega)]
        | succ k =>
          simp only [List.flatten_cons, List.getElem_cons_succ]
          rw [List.getElem?_append_right (by rw [hc, Nat.add_mul]; omega), ← ih (fun c hc => hC c (List.mem_cons_of_mem _ hc)) k (by simpa using hk)]
          congr 1
          rw [hc, Nat.add_mul]; omega
    rw [flat C hC k hk]
    exact hj
end
end Go.Proofs.YteibhcocldihbaaDoor
namespace Go.Proofs.YteibhcocldihbaaDoor
open Go.RowKit
theorem wp_region_ext_tailm {P : Program} {id : Nat} {Q : Exit → Act → World → Prop} {a : Act} {w : World} {l : List Oper} {d : Option Tmp} {x : Operand} {t' : TypeId} {pos : String} {after : Array Edge} {r : List Oper} (n : Nat) (hl : l = ⟨d, .move x, t', pos, after, none⟩ :: r) (hm : P.follows .mixedOrders = true) (hB : lexTail1B .any l.toArray n = true)
    (hQ : ∀ c a' w', Q (.panic c) (a'.put d (a.eval x)) w' → Q (.panic c) a' w')
    (h : wpQuiet P l.toArray (fun w' => ∃ y : Ext w, w' = y.val) (fun a' => ∀ w', (∃ y : Ext w, w' = y.val) → wpList P l.toArray Q (l.drop n) a' w') (l.take n) a) : (Code.region id l.toArray true).wp P Q a w := by
  refine wp_region_ext_tail1 n hl hm hB hQ ?_
  have hn : 1 ≤ n := by
    simp only [lexTail1B, Bool.and_eq_true, decide_eq_true_eq] at hB
    exact hB.2.1
  have e : l.take n = ⟨d, .move x, t', pos, after, none⟩ :: (l.take n).drop 1 := by
    rw [hl]
    cases n with
    | zero => omega
    | succ n => simp
  rw [e] at h
  have h1 : Oper.quiet P ⟨d, .move x, t', pos, after, none⟩ a (fun w' => ∃ y : Ext w, w' = y.val) (wpQuiet P l.toArray (fun w' => ∃ y : Ext w, w' = y.val) (fun a' => ∀ w', (∃ y : Ext w, w' = y.val) → wpList P l.toArray Q (l.drop n) a' w') ((l.take n).drop 1)) := by
    have hw : Region.wanted (⟨d, .move x, t', pos, after, none⟩ : Oper) (yielded l.toArray a.tmps) = true := rfl
    unfold wpQuiet at h
    rw [if_pos hw] at h
    exact h
  obtain ⟨v, hv, hk⟩ := h1
  have h2 := hv w.drew ⟨Ext.drew w, rfl⟩
  unfold Oper.quietAt at h2
  rw [BigFrame.run_move x rfl] at h2
  obtain ⟨_, rfl⟩ := h2
  exact hk
/-- A whole load, quietly. -/
theorem quiet_load_rng {P : Program} {C : World → Prop} {K : Act → Prop} {a : Act} {d : Tmp} {ty : TypeId} {p : Tmp} {t' : TypeId} {pos : String} {after : Array Edge} {gd : Option (Nat × Bool)} {b off : Nat} {ds : TypeDesc} (L : List Value)
    (hx : a.eval (.tmp p) = .pointer (some ⟨b, off, none⟩)) (hr : ∀ w, C w → w.rangeAt b off L) (hu : P.underlying ty = some ds) (hd : ds.isRow = true) (hi : (P.info? ty).map (·.size) = some L.length)
    (hk : K (a.put (some d) (.agg L.toArray))) : Oper.quiet P ⟨some d, .load ty (.tmp p), t', pos, after, gd⟩ a C K :=
  ⟨.agg L.toArray, fun w hw => by
    unfold Oper.quietAt execOp
    simp only [hx, Instr.loadAt, Instr.sureAddr, Sem.run_bind, Sem.run_pure, Result.andThen_ok, run_loadVar_mid w b off ty L ds (hr w hw) hu hd hi]
    exact ⟨rfl, rfl⟩, hk⟩
end Go.Proofs.YteibhcocldihbaaDoor
namespace Go.Proofs.YteibhcocldihbaaDoor
open Go.RowKit
theorem foldl_set : ∀ (L : List Value) (k : Nat) (A : Array Value), k + L.length ≤ A.size →
    (L.zipIdx k).foldl (fun cs x => cs.setIfInBounds (0 + x.2) x.1) A = (A.toList.take k ++ (L ++ A.toList.drop (k + L.length))).toArray
  | [], k, A, h => by simp
  | v :: r, k, A, h => by
    simp only [List.length_cons] at h
    simp only [List.zipIdx_cons, List.foldl_cons, Nat.zero_add]
    have ih := foldl_set r (k + 1) (A.setIfInBounds k v) (by simp; omega)
    simp only [Nat.zero_add] at ih
    rw [ih]
    congr 1
    have hk : k < A.toList.length := by simp; omega
    rw [Array.toList_setIfInBounds, List.take_succ_eq_append_getElem (by simpa using hk)]
    simp only [List.getElem_set_self, List.take_set_of_le (Nat.le_refl k), List.length_cons]
    rw [List.drop_set_of_lt (by omega)]
    simp [Nat.add_assoc, Nat.add_comm 1]
theorem run_buildSlice1 {P : Program} {t e : TypeId} {size bytes : Nat} (E : ElemOk P t e size bytes) (L : List Value) (hl : L.length = size) (hs : size ≤ 16777216) (w : World) :
    (Instr.buildSlice t 1 #[(0, .agg L.toArray)]).run P w = .ok (.slice (some ⟨w.heap.size, 0, none⟩) 1 1) (w.alloc (.cells L.toArray e)) := by
  obtain ⟨ht, i, z, hi, hz, hsz, hby, hzs, hpos⟩ := E
  have hzv : ∀ w, (zeroValue e).run P w = .ok z w := (zero_of_info (n := size) (by rw [hi]; simp [hz, hsz])).1
  have hso : (sizeOf e).run P w = .ok size w := by simp [sizeOf, typeInfo, hi, hsz]
  unfold Instr.buildSlice
  have h1 : ¬ (1 * size > 2 ^ 24) := by omega
  have h2 : ¬ (1 * size = 0) := by omega
  have hfill : Instr.fill (fun i => some (i * size, size)) ((Array.range (1 * size)).map (fun j => z.cells[j % z.cells.size]!)) [(0, .agg L.toArray)] = some L.toArray := by
    have hA : ((Array.range (1 * size)).map (fun j => z.cells[j % z.cells.size]!)).size = L.length := by simp [hl]
    generalize (Array.range (1 * size)).map (fun j => z.cells[j % z.cells.size]!) = A at *
    have hc : (Value.agg L.toArray).cells = L.toArray := rfl
    simp only [Instr.fill, hc]
    have hz0 : 0 * size = 0 := Nat.zero_mul _
    have hcond : (decide (L.toArray.size ≠ size) || decide (0 * size + L.toArray.size > A.size)) = false := by
      rw [hz0]; simp [hl, hA]
    have hif : ∀ (x y : Option (Array Value)), (if (decide (L.toArray.size ≠ size) || decide (0 * size + L.toArray.size > A.size)) = true then x else y) = y := fun x y => by rw [hcond]; rfl
    rw [hif, hz0]
    have := foldl_set L 0 A (by omega)
    rw [← Array.foldl_toList]
    rw [show L.toArray.zipIdx.toList = L.zipIdx 0 by simp]
    rw [this]
    have hd : A.toList.drop (0 + L.length) = [] := List.drop_of_length_le (by simp; omega)
    rw [hd]
    simp
  simp only [Sem.run_bind, run_underlying ht, Result.andThen_ok, hso, if_neg h1, if_neg h2, hzv, Sem.run_pure, hfill]
  rfl
theorem wpList_build1 {P : Program} {ops : Array Oper} {rest : List Oper} {d p : Tmp} {t t' : TypeId} {pos : String} {after : Array Edge} {a : Act} {w : World} {Q : Exit → Act → World → Prop} {e : TypeId} {size bytes : Nat} (L : List Value)
    (E : ElemOk P t e size bytes) (hx : a.eval (.tmp p) = .agg L.toArray) (hl : L.length = size) (hs : size ≤ 16777216)
    (h : ∀ W, Blk W w.heap.size e L → Below w.heap.size w W → w.heap.size < W.heap.size → wpList P ops Q rest (a.put (some d) (.slice (some ⟨w.heap.size, 0, none⟩) 1 1)) W) :
    wpList P ops Q (⟨some d, .buildSlice t 1 #[(0, .tmp p)], t', pos, after, none⟩ :: rest) a w := by
  refine wpList_plain rfl fun _ hK => ?_
  unfold Oper.wp execOp
  have hr := run_buildSlice1 E L hl hs w
  simp only [List.map_toArray, List.map_cons, List.map_nil, hx, Sem.run_bind, Sem.run_map, hr]
  exact hK _ _ (h _ (Blk.new w L e) ((Below.refl _ w).alloc (Nat.le_refl _) _) (by simp))
end Go.Proofs.YteibhcocldihbaaDoor

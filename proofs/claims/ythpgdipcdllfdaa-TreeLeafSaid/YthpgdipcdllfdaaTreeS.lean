/- What Solve computes is the one solution of the net. No program in sight. -/
import Derived.Test.YthpgdipcdllfdaaTreeM
namespace Go.Proofs.Ythpgdipcdllfdaa
section
variable {l : List Node}
theorem getD_mem {α : Type} (l : List α) (d : α) {i : Nat} (h : i < l.length) : l.getD i d ∈ l := by
  rw [List.getD_eq_getElem?_getD, List.getElem?_eq_getElem h]; exact List.getElem_mem h
theorem valid_node (h : validNet l = true) {i : Nat} (hi : i < l.length) : rightN (nodeAt l i) = true := by
  unfold validNet at h
  simp only [Bool.and_eq_true, List.all_eq_true] at h
  exact h.1.2 _ (getD_mem l default hi)
theorem valid_br (h : validNet l = true) {i : Nat} (hi : i < l.length) : rightB (nodeAt l i).br = true := by
  have := valid_node h hi
  unfold rightN at this
  simp only [Bool.and_eq_true] at this
  exact this.1.1.2
theorem valid_mem (h : validNet l = true) {i k : Nat} (hi : i < l.length) (hk : k < (nodeAt l i).ports.length) : rightM (portAt (nodeAt l i) k) = true := by
  have := valid_node h hi
  unfold rightN at this
  simp only [Bool.and_eq_true, List.all_eq_true] at this
  exact this.1.2 _ (getD_mem _ default hk)
theorem u8_digit (x : UInt8) : 0 ≤ (x.toNat : Int) ∧ (x.toNat : Int) < 4294967296 := by have := x.toNat_lt; omega
theorem digits_br {b : Br} (h : rightB b = true) : Digits b.key := by
  unfold rightB at h
  simp only [Bool.and_eq_true, decide_eq_true_eq] at h
  intro d hd
  simp only [Br.key, List.mem_cons, List.not_mem_nil, or_false] at hd
  rcases hd with rfl | rfl | rfl | rfl | rfl | rfl | rfl | rfl
  · omega
  · omega
  all_goals exact u8_digit _
theorem rightM_pt {m : Mem} (h : rightM m = true) : rightP m.port = true ∧ 1 ≤ m.cost ∧ m.cost ≤ 200000000 ∧ 0 ≤ m.lan ∧ m.lan ≤ 63 := by
  unfold rightM at h
  simp only [Bool.and_eq_true, decide_eq_true_eq] at h
  exact ⟨h.1.1.1.1, h.1.1.1.2, h.1.1.2, h.1.2, h.2⟩
theorem digits_pt {p : Pt} (h : rightP p = true) : Digits p.key := by
  unfold rightP at h
  simp only [Bool.and_eq_true, decide_eq_true_eq] at h
  intro d hd
  simp only [Pt.key, List.mem_cons, List.not_mem_nil, or_false] at hd
  rcases hd with rfl | rfl <;> omega
theorem digits_append {a b : List Int} (ha : Digits a) (hb : Digits b) : Digits (a ++ b) := fun d hd => by
  rcases List.mem_append.1 hd with h | h
  · exact ha d h
  · exact hb d h
theorem digits_zero : Digits (Pt.key ⟨0, 0⟩) := fun d hd => by
  simp only [Pt.key, List.mem_cons, List.not_mem_nil, or_false] at hd
  rcases hd with rfl | rfl <;> omega
theorem ok_own {n : Node} (h : rightB n.br = true) : (ownM n).Ok :=
  ⟨digits_br h, Int.le_refl 0, digits_append (digits_br h) (digits_append digits_zero digits_zero)⟩
/-- What node i makes, by port k, of what node j tells by port m. -/
def heardOf (l : List Node) (has : Vec) (i k j m : Nat) : Vec := hearsM (nodeAt l i) (tellsM (nodeAt l j) has m) k
theorem ok_heard (hv : validNet l = true) {has : Vec} (h : has.Ok) {i k j m : Nat} (hi : i < l.length) (hk : k < (nodeAt l i).ports.length) (hj : j < l.length) (hm : m < (nodeAt l j).ports.length) : (heardOf l has i k j m).Ok := by
  obtain ⟨p1, c1, _⟩ := rightM_pt (valid_mem hv hi hk)
  obtain ⟨p2, _⟩ := rightM_pt (valid_mem hv hj hm)
  refine ⟨h.root, ?_, digits_append (digits_br (valid_br hv hj)) (digits_append (digits_pt p2) (digits_pt p1))⟩
  have := h.cost
  show 0 ≤ has.cost + (portAt (nodeAt l i) k).cost
  omega
def labelOf (l : List Node) (i k j m : Nat) : List Int := (nodeAt l j).br.key ++ ((portAt (nodeAt l j) m).port.key ++ (portAt (nodeAt l i) k).port.key)
def hopOf (l : List Node) (i k j m : Nat) : Hop := ⟨j, i, (portAt (nodeAt l i) k).cost.toNat, packI (labelOf l i k j m)⟩
def hopsM (l : List Node) : List Hop :=
  (List.range l.length).flatMap fun i => (List.range (nodeAt l i).ports.length).flatMap fun k => (List.range l.length).flatMap fun j => ((List.range (nodeAt l j).ports.length).filter (onLan l i k j)).map (hopOf l i k j)
theorem mem_hops {e : Hop} : e ∈ hopsM l ↔ ∃ i k j m, i < l.length ∧ k < (nodeAt l i).ports.length ∧ j < l.length ∧ m < (nodeAt l j).ports.length ∧ onLan l i k j m = true ∧ e = hopOf l i k j m := by
  unfold hopsM
  simp only [List.mem_flatMap, List.mem_map, List.mem_filter, List.mem_range]
  constructor
  · rintro ⟨i, hi, k, hk, j, hj, m, ⟨hm, ho⟩, rfl⟩; exact ⟨i, k, j, m, hi, hk, hj, hm, ho, rfl⟩
  · rintro ⟨i, k, j, m, hi, hk, hj, hm, ho, rfl⟩; exact ⟨i, hi, k, hk, j, hj, m, ⟨hm, ho⟩, rfl⟩
theorem mem_others {has : List Vec} {i k : Nat} {v : Vec} : v ∈ othersM l has i k ↔ ∃ j m, j < l.length ∧ m < (nodeAt l j).ports.length ∧ onLan l i k j m = true ∧ v = tellsM (nodeAt l j) (has.getD j default) m := by
  unfold othersM othersOf
  simp only [List.mem_flatMap, List.mem_map, List.mem_filter, List.mem_range]
  constructor
  · rintro ⟨j, hj, m, ⟨hm, ho⟩, rfl⟩; exact ⟨j, m, hj, hm, ho, rfl⟩
  · rintro ⟨j, m, hj, hm, ho, rfl⟩; exact ⟨j, hj, m, ⟨hm, ho⟩, rfl⟩
theorem hop_val (hv : validNet l = true) {has : Vec} (h : has.Ok) {i k j m : Nat} (hi : i < l.length) (hk : k < (nodeAt l i).ports.length) : (hopOf l i k j m).on has.val = (heardOf l has i k j m).val := by
  obtain ⟨p1, c1, _⟩ := rightM_pt (valid_mem hv hi hk)
  have := h.cost
  have e : (has.cost + (portAt (nodeAt l i) k).cost).toNat = has.cost.toNat + (portAt (nodeAt l i) k).cost.toNat := by omega
  show (⟨has.root.pack, has.cost.toNat + (portAt (nodeAt l i) k).cost.toNat, packI (labelOf l i k j m)⟩ : Val) = ⟨has.root.pack, (has.cost + (portAt (nodeAt l i) k).cost).toNat, packI (labelOf l i k j m)⟩
  rw [e]
theorem fine_hops (hv : validNet l = true) : Fine l.length (hopsM l) := by
  intro e he
  obtain ⟨i, k, j, m, hi, hk, hj, hm, ho, rfl⟩ := mem_hops.1 he
  obtain ⟨p1, c1, _⟩ := rightM_pt (valid_mem hv hi hk)
  refine ⟨hj, hi, ?_⟩
  show 0 < (portAt (nodeAt l i) k).cost.toNat
  omega
/-- V is the solution of a net. -/
structure Sol (l : List Node) (V : List Vec) : Prop where
  len : V.length = l.length
  ok : ∀ i, i < l.length → (V.getD i default).Ok
  own : ∀ i, i < l.length → better (ownM (nodeAt l i)) (V.getD i default) = false
  hear : ∀ i k j m, i < l.length → k < (nodeAt l i).ports.length → j < l.length → m < (nodeAt l j).ports.length → onLan l i k j m = true → better (heardOf l (V.getD j default) i k j m) (V.getD i default) = false
  hit : ∀ i, i < l.length → V.getD i default = ownM (nodeAt l i) ∨ ∃ k j m, k < (nodeAt l i).ports.length ∧ j < l.length ∧ m < (nodeAt l j).ports.length ∧ onLan l i k j m = true ∧ V.getD i default = heardOf l (V.getD j default) i k j m
def valsOf (V : List Vec) (i : Nat) : Val := (V.getD i default).val
def ownsOf (l : List Node) (i : Nat) : Val := (ownM (nodeAt l i)).val
theorem not_lt_of {a b : Vec} (ha : a.Ok) (hb : b.Ok) (h : better a b = false) : Val.le b.val a.val := fun hlt => by
  rw [(val_lt ha hb).2 hlt] at h; cases h
theorem better_of_le {a b : Vec} (ha : a.Ok) (hb : b.Ok) (h : Val.le b.val a.val) : better a b = false := by
  cases e : better a b
  · rfl
  · exact (h ((val_lt ha hb).1 e)).elim
theorem sol_low (hv : validNet l = true) {V : List Vec} (h : Sol l V) : Low l.length (ownsOf l) (hopsM l) (valsOf V) := by
  refine ⟨fun i hi => not_lt_of (ok_own (valid_br hv hi)) (h.ok i hi) (h.own i hi), fun e he => ?_⟩
  obtain ⟨i, k, j, m, hi, hk, hj, hm, ho, rfl⟩ := mem_hops.1 he
  show Val.le (valsOf V i) ((hopOf l i k j m).on (valsOf V j))
  unfold valsOf
  rw [hop_val hv (h.ok j hj) hi hk]
  exact not_lt_of (ok_heard hv (h.ok j hj) hi hk hj hm) (h.ok i hi) (h.hear i k j m hi hk hj hm ho)
theorem sol_hit (hv : validNet l = true) {V : List Vec} (h : Sol l V) : Hit l.length (ownsOf l) (hopsM l) (valsOf V) := by
  intro i hi
  rcases h.hit i hi with e | ⟨k, j, m, hk, hj, hm, ho, e⟩
  · left; unfold valsOf ownsOf; rw [e]
  · right
    refine ⟨hopOf l i k j m, mem_hops.2 ⟨i, k, j, m, hi, hk, hj, hm, ho, rfl⟩, rfl, ?_⟩
    show valsOf V i = (hopOf l i k j m).on (valsOf V j)
    unfold valsOf
    rw [hop_val hv (h.ok j hj) hi hk, e]
theorem getD_ext {V W : List Vec} (h : V.length = W.length) (k : ∀ i, i < V.length → V.getD i default = W.getD i default) : V = W := by
  apply List.ext_getElem h
  intro i h1 h2
  have := k i h1
  rwa [List.getD_eq_getElem?_getD, List.getD_eq_getElem?_getD, List.getElem?_eq_getElem h1, List.getElem?_eq_getElem h2] at this
theorem sol_unique (hv : validNet l = true) {V W : List Vec} (h : Sol l V) (k : Sol l W) : V = W := by
  refine getD_ext (h.len.trans k.len.symm) (fun i hi => ?_)
  rw [h.len] at hi
  exact val_inj (h.ok i hi) (k.ok i hi) (fix_unique (fine_hops hv) (sol_low hv h) (sol_hit hv h) (sol_low hv k) (sol_hit hv k) i hi)
/-! ### The rounds -/
theorem best_val (hs : List Vec) : ∀ a : Vec, a.Ok → (∀ h ∈ hs, h.Ok) → (bestOf a hs).Ok ∧ (bestOf a hs).val = least a.val (hs.map Vec.val) := by
  induction hs with
  | nil => exact fun a ha _ => ⟨ha, rfl⟩
  | cons b r ih =>
    intro a ha hall
    have hb := hall b (List.mem_cons_self ..)
    have hr := fun h hh => hall h (List.mem_cons_of_mem _ hh)
    show (bestOf (if better b a then b else a) r).Ok ∧ (bestOf (if better b a then b else a) r).val = least (if Val.lt b.val a.val then b.val else a.val) (r.map Vec.val)
    by_cases e : better b a = true
    · rw [if_pos e, if_pos ((val_lt hb ha).1 e)]; exact ih b hb hr
    · rw [if_neg e, if_neg (fun h => e ((val_lt hb ha).2 h))]; exact ih a ha hr
theorem least_same {a : Val} {x y : List Val} (h : ∀ v, v ∈ x ↔ v ∈ y) : least a x = least a y := by
  obtain ⟨h1, h2⟩ := least_le x a
  obtain ⟨k1, k2⟩ := least_le y a
  apply Val.antisymm
  · rcases least_mem y a with e | e
    · rw [e]; exact h1
    · exact h2 _ ((h _).2 e)
  · rcases least_mem x a with e | e
    · rw [e]; exact k1
    · exact k2 _ ((h _).1 e)
theorem getD_map_range {α : Type} (f : Nat → α) (d : α) (n i : Nat) (h : i < n) : ((List.range n).map f).getD i d = f i := by
  rw [List.getD_eq_getElem?_getD, List.getElem?_eq_getElem (by simpa using h)]; simp
theorem mem_heards {has : List Vec} {i : Nat} {v : Vec} : v ∈ (List.range (nodeAt l i).ports.length).flatMap (heardM l has i) ↔ ∃ k j m, k < (nodeAt l i).ports.length ∧ j < l.length ∧ m < (nodeAt l j).ports.length ∧ onLan l i k j m = true ∧ v = heardOf l (has.getD j default) i k j m := by
  unfold heardM
  simp only [List.mem_flatMap, List.mem_map, List.mem_range, mem_others]
  constructor
  · rintro ⟨k, hk, v, ⟨j, m, hj, hm, ho, rfl⟩, rfl⟩; exact ⟨k, j, m, hk, hj, hm, ho, rfl⟩
  · rintro ⟨k, j, m, hk, hj, hm, ho, rfl⟩; exact ⟨k, hk, _, ⟨j, m, hj, hm, ho, rfl⟩, rfl⟩
theorem rounds_len (t : Nat) : (roundsM l t).length = l.length := by
  cases t <;> simp [roundsM, nextM]
theorem rounds_val (hv : validNet l = true) (t : Nat) : ∀ i, i < l.length → ((roundsM l t).getD i default).Ok ∧ valsOf (roundsM l t) i = rounds_ (ownsOf l) (hopsM l) t i := by
  induction t with
  | zero =>
    intro i hi
    have e : (roundsM l 0).getD i default = ownM (nodeAt l i) := by
      simp only [roundsM, nodeAt, List.getD_eq_getElem?_getD, List.getElem?_map, List.getElem?_eq_getElem hi, Option.map_some, Option.getD_some]
    unfold valsOf
    rw [e]
    exact ⟨ok_own (valid_br hv hi), rfl⟩
  | succ t ih =>
    intro i hi
    have e : (roundsM l (t + 1)).getD i default = nextOf l (roundsM l t) i := getD_map_range _ _ _ _ hi
    unfold valsOf
    rw [e]
    unfold nextOf
    obtain ⟨h1, h2⟩ := best_val ((List.range (nodeAt l i).ports.length).flatMap (heardM l (roundsM l t) i)) ((roundsM l t).getD i default) (ih i hi).1 (fun v hvm => by
      obtain ⟨k, j, m, hk, hj, hm, ho, rfl⟩ := mem_heards.1 hvm
      exact ok_heard hv (ih j hj).1 hi hk hj hm)
    refine ⟨h1, h2.trans ?_⟩
    have e2 : ((roundsM l t).getD i default).val = rounds_ (ownsOf l) (hopsM l) t i := (ih i hi).2
    rw [e2]
    show _ = least (rounds_ (ownsOf l) (hopsM l) t i) (heardAt (hopsM l) (rounds_ (ownsOf l) (hopsM l) t) i)
    apply least_same
    intro x
    rw [mem_heardAt, List.mem_map]
    constructor
    · rintro ⟨v, hvm, rfl⟩
      obtain ⟨k, j, m, hk, hj, hm, ho, rfl⟩ := mem_heards.1 hvm
      refine ⟨hopOf l i k j m, mem_hops.2 ⟨i, k, j, m, hi, hk, hj, hm, ho, rfl⟩, rfl, ?_⟩
      rw [← hop_val hv (ih j hj).1 hi hk]
      show _ = (hopOf l i k j m).on (rounds_ (ownsOf l) (hopsM l) t j)
      rw [← (ih j hj).2]; rfl
    · rintro ⟨e', he, hd, rfl⟩
      obtain ⟨i', k, j, m, hi', hk, hj, hm, ho, rfl⟩ := mem_hops.1 he
      obtain rfl : i' = i := hd
      refine ⟨_, mem_heards.2 ⟨k, j, m, hk, hj, hm, ho, rfl⟩, ?_⟩
      rw [← hop_val hv (ih j hj).1 hi hk]
      show _ = (hopOf l i' k j m).on (rounds_ (ownsOf l) (hopsM l) t j)
      rw [← (ih j hj).2]; rfl
theorem sol_solve (hv : validNet l = true) : Sol l (solveM l) := by
  have hf := fine_hops hv
  have hR := rounds_val hv l.length
  have low := rounds_low (own := ownsOf l) hf (show l.length ≤ l.length + 1 by omega)
  have hit := rounds_hit (own := ownsOf l) hf (show l.length ≤ l.length + 1 by omega)
  refine ⟨rounds_len _, fun i hi => (hR i hi).1, fun i hi => ?_, fun i k j m hi hk hj hm ho => ?_, fun i hi => ?_⟩
  · apply better_of_le (ok_own (valid_br hv hi)) (hR i hi).1
    have := low.own i hi
    rw [← (hR i hi).2] at this; exact this
  · apply better_of_le (ok_heard hv (hR j hj).1 hi hk hj hm) (hR i hi).1
    have := low.hop _ (mem_hops.2 ⟨i, k, j, m, hi, hk, hj, hm, ho, rfl⟩)
    rw [← hop_val hv (hR j hj).1 hi hk]
    have e1 : valsOf (roundsM l l.length) i = rounds_ (ownsOf l) (hopsM l) l.length i := (hR i hi).2
    have e2 : valsOf (roundsM l l.length) j = rounds_ (ownsOf l) (hopsM l) l.length j := (hR j hj).2
    show Val.le (valsOf (roundsM l l.length) i) ((hopOf l i k j m).on (valsOf (roundsM l l.length) j))
    rw [e1, e2]; exact this
  · rcases hit i hi with e | ⟨e', he, hd, e⟩
    · left
      apply val_inj (hR i hi).1 (ok_own (valid_br hv hi))
      exact (hR i hi).2.trans e
    · right
      obtain ⟨i', k, j, m, hi', hk, hj, hm, ho, rfl⟩ := mem_hops.1 he
      obtain rfl : i' = i := hd
      refine ⟨k, j, m, hk, hj, hm, ho, ?_⟩
      apply val_inj (hR i' hi).1 (ok_heard hv (hR j hj).1 hi hk hj hm)
      rw [← hop_val hv (hR j hj).1 hi hk]
      refine (hR i' hi).2.trans (e.trans ?_)
      show (hopOf l i' k j m).on (rounds_ (ownsOf l) (hopsM l) l.length j) = _
      rw [← (hR j hj).2]; rfl
end
end Go.Proofs.Ythpgdipcdllfdaa

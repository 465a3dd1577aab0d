/- keep.rooms as plain data, and what holds of it. No program in sight. -/
import Derived.Test.YthpgdipcdllfdaaRolesF
namespace Go.Proofs.Ythpgdipcdllfdaa
def relax (r : List Int) (a b : Nat) : List Int :=
  (r.set a (if r.getD b 0 < r.getD a 0 then r.getD b 0 else r.getD a 0)).set b (if r.getD b 0 < r.getD a 0 then r.getD b 0 else r.getD a 0)
def lanOf (l : List Node) (p : Nat × Nat) : Nat := l.length + (memAt l p.1 p.2).lan.toNat
def stepR (l : List Node) (H : Nat → Nat → Bool) (r : List Int) (p : Nat × Nat) : List Int := if H p.1 p.2 then relax r p.1 (lanOf l p) else r
def roomTo (l : List Node) (H : Nat → Nat → Bool) (j k : Nat) (r : List Int) : List Int := (portsTo l j k).foldl (stepR l H) r
def roomsN (l : List Node) (H : Nat → Nat → Bool) : Nat → List Int
  | 0 => (List.range (l.length + 64)).map fun (x : Nat) => (x : Int)
  | t + 1 => roomTo l H l.length 0 (roomsN l H t)
def roomsM (l : List Node) (H : Nat → Nat → Bool) : List Int := roomsN l H (l.length + 64)
theorem relax_len (r : List Int) (a b : Nat) : (relax r a b).length = r.length := by simp [relax]
theorem stepR_len (l : List Node) (H : Nat → Nat → Bool) (r : List Int) (p : Nat × Nat) : (stepR l H r p).length = r.length := by
  unfold stepR; split
  · exact relax_len _ _ _
  · rfl
theorem fold_len (l : List Node) (H : Nat → Nat → Bool) : ∀ (ps : List (Nat × Nat)) (r : List Int), (ps.foldl (stepR l H) r).length = r.length
  | [], _ => rfl
  | p :: ps, r => by rw [List.foldl_cons, fold_len l H ps, stepR_len]
theorem roomTo_len (l : List Node) (H : Nat → Nat → Bool) (j k : Nat) (r : List Int) : (roomTo l H j k r).length = r.length := fold_len l H _ r
theorem roomsN_len (l : List Node) (H : Nat → Nat → Bool) : ∀ t, (roomsN l H t).length = l.length + 64
  | 0 => by simp [roomsN]
  | t + 1 => by rw [roomsN, roomTo_len, roomsN_len l H t]
theorem roomTo_zero (l : List Node) (H : Nat → Nat → Bool) (r : List Int) : roomTo l H 0 0 r = r := rfl
theorem roomTo_succ (l : List Node) (H : Nat → Nat → Bool) (j k : Nat) (r : List Int) : roomTo l H j (k + 1) r = stepR l H (roomTo l H j k r) (j, k) := by
  unfold roomTo; rw [portsTo_succ, List.foldl_append]; rfl
theorem roomTo_next (l : List Node) (H : Nat → Nat → Bool) (j : Nat) (r : List Int) : roomTo l H (j + 1) 0 r = roomTo l H j (nodeAt l j).ports.length r := by
  unfold roomTo; rw [portsTo_next]
theorem getD_set (r : List Int) (a : Nat) (v : Int) (x : Nat) (ha : a < r.length) : (r.set a v).getD x 0 = if x = a then v else r.getD x 0 := by
  simp only [List.getD_eq_getElem?_getD, List.getElem?_set]
  by_cases h : x = a
  · subst h; simp [ha]
  · have h' : ¬ a = x := fun e => h e.symm
    simp [h, h']
/-- One number for two places. -/
theorem relax_at (r : List Int) (a b : Nat) (ha : a < r.length) (hb : b < r.length) (x : Nat) :
    (relax r a b).getD x 0 = if x = a ∨ x = b then (if r.getD b 0 < r.getD a 0 then r.getD b 0 else r.getD a 0) else r.getD x 0 := by
  unfold relax
  rw [getD_set _ _ _ _ (by simpa using hb), getD_set _ _ _ _ ha]
  by_cases h1 : x = b
  · simp [h1]
  · by_cases h2 : x = a <;> simp [h1, h2]
section
variable {l : List Node} {H : Nat → Nat → Bool}
theorem lanOf_lt (hv : validNet l = true) {p : Nat × Nat} (h : p.1 < l.length ∧ p.2 < (nodeAt l p.1).ports.length) : lanOf l p < l.length + 64 := by
  have := cost_pos hv h.1 h.2
  unfold lanOf
  omega
/-- What each step keeps, all do. -/
theorem fold_keeps {P : List Int → Prop} (hv : validNet l = true) (hP : ∀ r p, r.length = l.length + 64 → p.1 < l.length → p.2 < (nodeAt l p.1).ports.length → H p.1 p.2 = true → P r → P (relax r p.1 (lanOf l p))) :
    ∀ (ps : List (Nat × Nat)) (r : List Int), (∀ p ∈ ps, p.1 < l.length ∧ p.2 < (nodeAt l p.1).ports.length) → r.length = l.length + 64 → P r → P (ps.foldl (stepR l H) r)
  | [], _, _, _, h => h
  | p :: ps, r, hp, hl, h => by
    rw [List.foldl_cons]
    refine fold_keeps hv hP ps _ (fun q hq => hp q (List.mem_cons_of_mem _ hq)) (by rw [stepR_len]; exact hl) ?_
    unfold stepR
    split
    · have := hp p (List.mem_cons_self ..)
      exact hP r p hl this.1 this.2 (by assumption) h
    · exact h
theorem rooms_keeps {P : List Int → Prop} (hv : validNet l = true) (h0 : P ((List.range (l.length + 64)).map fun (x : Nat) => (x : Int))) (hP : ∀ r p, r.length = l.length + 64 → p.1 < l.length → p.2 < (nodeAt l p.1).ports.length → H p.1 p.2 = true → P r → P (relax r p.1 (lanOf l p))) : ∀ t, P (roomsN l H t)
  | 0 => h0
  | t + 1 => fold_keeps hv hP _ _ (fun p hp => mem_ports_all.1 hp) (roomsN_len l H t) (rooms_keeps hv h0 hP t)
/-- Numbers of rooms are places, and whatever both ends of each port share, a place shares with its number. -/
theorem rooms_sound {β : Type} (hv : validNet l = true) (f : Nat → β) (hf : ∀ i k, i < l.length → k < (nodeAt l i).ports.length → H i k = true → f i = f (lanOf l (i, k))) (t : Nat) :
    ∀ x, x < l.length + 64 → 0 ≤ (roomsN l H t).getD x 0 ∧ (roomsN l H t).getD x 0 ≤ (x : Int) ∧ f ((roomsN l H t).getD x 0).toNat = f x := by
  refine rooms_keeps (P := fun r => ∀ x, x < l.length + 64 → 0 ≤ r.getD x 0 ∧ r.getD x 0 ≤ (x : Int) ∧ f (r.getD x 0).toNat = f x) hv ?_ ?_ t
  · intro x hx
    rw [getD_map_range _ _ _ _ hx]
    simp
  · intro r p hl hi hk hH hr x hx
    have hb := lanOf_lt hv ⟨hi, hk⟩
    have ha : p.1 < l.length + 64 := by omega
    rw [relax_at r _ _ (by omega) (by omega)]
    obtain ⟨a1, a2, a3⟩ := hr _ ha
    obtain ⟨b1, b2, b3⟩ := hr _ hb
    have he := hf p.1 p.2 hi hk hH
    have hab : p.1 < lanOf l p := by unfold lanOf; omega
    by_cases hxx : x = p.1 ∨ x = lanOf l p
    · rw [if_pos hxx]
      by_cases hlt : r.getD (lanOf l p) 0 < r.getD p.1 0
      · rw [if_pos hlt]
        refine ⟨b1, by omega, ?_⟩
        rcases hxx with rfl | rfl
        · exact b3.trans he.symm
        · exact b3
      · rw [if_neg hlt]
        refine ⟨a1, by omega, ?_⟩
        rcases hxx with rfl | rfl
        · exact a3
        · exact a3.trans he
    · rw [if_neg hxx]; exact hr x hx
/-- A net's root by place: a node's, or that of the nodes on a LAN. -/
def rootOf (l : List Node) (V : List Vec) (x : Nat) : Option Br :=
  if x < l.length then some (vecAt V x).root else
    ((portsTo l l.length 0).find? fun p => decide (lanOf l p = x)).map fun p => (vecAt V p.1).root
theorem lanOf_inj (hv : validNet l = true) {p q : Nat × Nat} (hp : p.1 < l.length ∧ p.2 < (nodeAt l p.1).ports.length) (hq : q.1 < l.length ∧ q.2 < (nodeAt l q.1).ports.length) (h : lanOf l p = lanOf l q) : (memAt l p.1 p.2).lan = (memAt l q.1 q.2).lan := by
  have h1 := cost_pos hv hp.1 hp.2
  have h2 := cost_pos hv hq.1 hq.2
  unfold lanOf at h
  omega
theorem lan_root {V : List Vec} (h : Sol l V) {i k j m : Nat} (hi : i < l.length) (hk : k < (nodeAt l i).ports.length) (hj : j < l.length) (hm : m < (nodeAt l j).ports.length) (hl : (memAt l j m).lan = (memAt l i k).lan) : (vecAt V i).root = (vecAt V j).root := by
  by_cases hne : j = i ∧ m = k
  · rw [hne.1]
  · exact near_root h hi hk hj hm (onLan_of i k j m hl hne)
theorem rootOf_edge (hv : validNet l = true) {V : List Vec} (h : Sol l V) {i k : Nat} (hi : i < l.length) (hk : k < (nodeAt l i).ports.length) : rootOf l V i = rootOf l V (lanOf l (i, k)) := by
  unfold rootOf
  have hn : ¬ lanOf l (i, k) < l.length := by unfold lanOf; omega
  rw [if_pos hi, if_neg hn]
  cases hf : (portsTo l l.length 0).find? fun p => decide (lanOf l p = lanOf l (i, k)) with
  | none =>
    rw [List.find?_eq_none] at hf
    have := hf (i, k) (mem_ports_all.2 ⟨hi, hk⟩)
    simp at this
  | some p =>
    have h1 := List.mem_of_find?_eq_some hf
    have h2 := List.find?_some hf
    rw [mem_ports_all] at h1
    rw [decide_eq_true_eq] at h2
    have h3 := lanOf_inj hv h1 ⟨hi, hk⟩ h2
    rw [Option.map_some, lan_root h h1.1 h1.2 hi hk h3.symm]
/-- Nodes of one room have one root. -/
theorem room_root (hv : validNet l = true) {V : List Vec} (h : Sol l V) {i j : Nat} (hi : i < l.length) (hj : j < l.length) (e : (roomsM l H).getD i 0 = (roomsM l H).getD j 0) : (vecAt V i).root = (vecAt V j).root := by
  have hs := rooms_sound (H := H) hv (rootOf l V) (fun i k hi hk _ => rootOf_edge hv h hi hk) (l.length + 64)
  have h1 := (hs i (by omega)).2.2
  have h2 := (hs j (by omega)).2.2
  have e' : (roomsN l H (l.length + 64)).getD i 0 = (roomsN l H (l.length + 64)).getD j 0 := e
  rw [e', h2] at h1
  unfold rootOf at h1
  rw [if_pos hi, if_pos hj] at h1
  exact (Option.some.inj h1).symm
end
end Go.Proofs.Ythpgdipcdllfdaa

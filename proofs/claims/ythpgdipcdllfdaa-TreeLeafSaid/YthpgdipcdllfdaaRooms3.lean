/- keep.rooms: both ends of each port have one number in the end; by the ports that pass the rooms are those by all. No program in sight. -/
import Derived.Test.YthpgdipcdllfdaaRooms1
namespace Go.Proofs.Ythpgdipcdllfdaa
theorem exists_least {P : Nat → Prop} (h : ∃ n, P n) : ∃ n, P n ∧ ∀ m, P m → n ≤ m := by
  obtain ⟨n, hn⟩ := h
  induction n using Nat.strongRecOn with
  | ind n ih =>
    by_cases hm : ∃ m, m < n ∧ P m
    · obtain ⟨m, hm, hp⟩ := hm
      exact ih m hm hp
    · exact ⟨n, hn, fun m hp => Nat.le_of_not_lt fun hlt => hm ⟨m, hlt, hp⟩⟩
theorem filter_lt {α : Type} {p q : α → Bool} (hpq : ∀ x, p x = true → q x = true) : ∀ (L : List α) (a : α), a ∈ L → p a = false → q a = true → (L.filter p).length < (L.filter q).length
  | [], _, h, _, _ => by cases h
  | b :: L, a, h, h1, h2 => by
    have hle : (L.filter p).length ≤ (L.filter q).length := by
      clear h
      induction L with
      | nil => simp
      | cons c L ih =>
        cases hp : p c
        · cases hq : q c
          · simpa [hp, hq] using ih
          · simp only [List.filter_cons, hp, hq, if_true, Bool.false_eq_true, if_false, List.length_cons]; omega
        · have := hpq c hp
          simp only [List.filter_cons, hp, this, if_true, List.length_cons]; omega
    rcases List.mem_cons.1 h with rfl | h
    · simp only [List.filter_cons, h1, h2, if_true, Bool.false_eq_true, if_false, List.length_cons]; omega
    · have ih := filter_lt hpq L a h h1 h2
      cases hp : p b
      · cases hq : q b
        · simpa [hp, hq] using ih
        · simp only [List.filter_cons, hp, hq, if_true, Bool.false_eq_true, if_false, List.length_cons]; omega
      · have := hpq b hp
        simp only [List.filter_cons, hp, this, if_true, List.length_cons]; omega
section
variable (l : List Node) (H : Nat → Nat → Bool)
def EdgeOk {β : Type} (f : Nat → β) : Prop := ∀ i k, i < l.length → k < (nodeAt l i).ports.length → H i k = true → f i = f (lanOf l (i, k))
def Conn (x z : Nat) : Prop := ∀ f : Nat → Prop, EdgeOk l H f → f x = f z
theorem Conn.rfl' (x : Nat) : Conn l H x x := fun _ _ => rfl
theorem exists_conn (x : Nat) : ∃ z, Conn l H x z := ⟨x, Conn.rfl' l H x⟩
/-- The least place of a room. -/
noncomputable def least_ (x : Nat) : Nat := Classical.choose (exists_least (exists_conn l H x))
theorem least_conn (x : Nat) : Conn l H x (least_ l H x) := (Classical.choose_spec (exists_least (exists_conn l H x))).1
theorem least_le' {x z : Nat} (h : Conn l H x z) : least_ l H x ≤ z := (Classical.choose_spec (exists_least (exists_conn l H x))).2 z h
theorem least_eq {x z : Nat} (h : Conn l H x z) : least_ l H x = least_ l H z := by
  apply Nat.le_antisymm
  · exact least_le' l H (fun f hf => (h f hf).trans (least_conn l H z f hf))
  · exact least_le' l H (fun f hf => (h f hf).symm.trans (least_conn l H x f hf))
theorem conn_edge {i k : Nat} (hi : i < l.length) (hk : k < (nodeAt l i).ports.length) (h : H i k = true) : Conn l H i (lanOf l (i, k)) := fun f hf => hf i k hi hk h
end
section
variable {l : List Node} {H : Nat → Nat → Bool}
theorem least_edge {i k : Nat} (hi : i < l.length) (hk : k < (nodeAt l i).ports.length) (h : H i k = true) : least_ l H i = least_ l H (lanOf l (i, k)) := least_eq l H (conn_edge l H hi hk h)
theorem least_self (x : Nat) : least_ l H (least_ l H x) = least_ l H x := (least_eq l H (least_conn l H x)).symm
theorem least_self_le (x : Nat) : least_ l H x ≤ x := least_le' l H (Conn.rfl' l H x)
/-- No number is below the room's least place. -/
theorem above_least (hv : validNet l = true) (t : Nat) {x : Nat} (hx : x < l.length + 64) : (least_ l H x : Int) ≤ (roomsN l H t).getD x 0 := by
  have hc : ∀ f : Nat → Prop, EdgeOk l H f → f x = f ((roomsN l H t).getD x 0).toNat := fun f hf => ((rooms_sound (H := H) hv f hf t x hx).2.2).symm
  have h1 := least_le' l H hc
  have h2 := (rooms_sound (H := H) (β := Unit) hv (fun _ => ()) (fun _ _ _ _ _ => rfl) t x hx).1
  omega
def Low_ (l : List Node) (H : Nat → Nat → Bool) (r : List Int) : Prop := ∀ x, x < l.length + 64 → (least_ l H x : Int) ≤ r.getD x 0
theorem low_relax (hv : validNet l = true) {r : List Int} {p : Nat × Nat} (hl : r.length = l.length + 64) (hi : p.1 < l.length) (hk : p.2 < (nodeAt l p.1).ports.length) (hH : H p.1 p.2 = true) (h : Low_ l H r) : Low_ l H (relax r p.1 (lanOf l p)) := by
  intro x hx
  have hb := lanOf_lt hv ⟨hi, hk⟩
  rw [relax_at r _ _ (by omega) (by omega)]
  have he : least_ l H p.1 = least_ l H (lanOf l p) := least_edge (H := H) hi hk hH
  have h1 := h p.1 (by omega)
  have h2 := h _ hb
  split
  · rename_i hxx
    have hm : least_ l H x = least_ l H p.1 := by
      rcases hxx with rfl | rfl
      · rfl
      · exact he.symm
    rw [hm]
    split
    · rw [he]; exact h2
    · exact h1
  · exact h x hx
theorem relax_le (hv : validNet l = true) {r : List Int} {p : Nat × Nat} (hl : r.length = l.length + 64) (hi : p.1 < l.length) (hk : p.2 < (nodeAt l p.1).ports.length) (x : Nat) : (relax r p.1 (lanOf l p)).getD x 0 ≤ r.getD x 0 := by
  have hb := lanOf_lt hv ⟨hi, hk⟩
  rw [relax_at r _ _ (by omega) (by omega)]
  split
  · rename_i hxx
    split
    · rcases hxx with rfl | rfl <;> omega
    · rcases hxx with rfl | rfl <;> omega
  · exact Int.le_refl _
/-- A round's steps: no number rises, none falls below its room's least; and whoever's neighbour has it, has it then. -/
theorem fold_low (hv : validNet l = true) : ∀ (ps : List (Nat × Nat)) (r : List Int), (∀ p ∈ ps, p.1 < l.length ∧ p.2 < (nodeAt l p.1).ports.length) → r.length = l.length + 64 → Low_ l H r →
    Low_ l H (ps.foldl (stepR l H) r) ∧ (∀ x, (ps.foldl (stepR l H) r).getD x 0 ≤ r.getD x 0) ∧
      ∀ p ∈ ps, H p.1 p.2 = true → (r.getD p.1 0 = least_ l H p.1 → (ps.foldl (stepR l H) r).getD (lanOf l p) 0 = least_ l H (lanOf l p)) ∧ (r.getD (lanOf l p) 0 = least_ l H (lanOf l p) → (ps.foldl (stepR l H) r).getD p.1 0 = least_ l H p.1)
  | [], r, _, _, h => ⟨h, fun _ => Int.le_refl _, fun p hp => by cases hp⟩
  | q :: ps, r, hps, hl, h => by
    have hq := hps q (List.mem_cons_self ..)
    have hstep : Low_ l H (stepR l H r q) ∧ ∀ x, (stepR l H r q).getD x 0 ≤ r.getD x 0 := by
      unfold stepR
      split
      · exact ⟨low_relax hv hl hq.1 hq.2 (by assumption) h, relax_le hv hl hq.1 hq.2⟩
      · exact ⟨h, fun _ => Int.le_refl _⟩
    obtain ⟨h1, h2, h3⟩ := fold_low hv ps (stepR l H r q) (fun p hp => hps p (List.mem_cons_of_mem _ hp)) (by rw [stepR_len]; exact hl) hstep.1
    rw [List.foldl_cons]
    have stay : ∀ x, x < l.length + 64 → r.getD x 0 = least_ l H x → (stepR l H r q).getD x 0 = least_ l H x := fun x hx e => by
      have a := hstep.1 x hx
      have b := hstep.2 x
      omega
    have stay2 : ∀ x, x < l.length + 64 → (stepR l H r q).getD x 0 = least_ l H x → (ps.foldl (stepR l H) (stepR l H r q)).getD x 0 = least_ l H x := fun x hx e => by
      have a := h1 x hx
      have b := h2 x
      omega
    refine ⟨h1, fun x => Int.le_trans (h2 x) (hstep.2 x), fun p hp hH => ?_⟩
    have hpp := hps p hp
    have hb := lanOf_lt hv hpp
    rcases List.mem_cons.1 hp with rfl | hp
    · have he : least_ l H p.1 = least_ l H (lanOf l p) := least_edge (H := H) hpp.1 hpp.2 hH
      have hr : stepR l H r p = relax r p.1 (lanOf l p) := by unfold stepR; rw [if_pos hH]
      have l1 := h p.1 (by omega)
      have l2 := h _ hb
      have ha := relax_at r p.1 (lanOf l p) (by omega) (by omega)
      constructor
      · intro e
        refine stay2 _ hb ?_
        rw [hr, ha, if_pos (.inr rfl)]
        split <;> omega
      · intro e
        refine stay2 _ (by omega) ?_
        rw [hr, ha, if_pos (.inl rfl)]
        split <;> omega
    · exact ⟨fun e => (h3 p hp hH).1 (stay _ (by omega) e), fun e => (h3 p hp hH).2 (stay _ hb e)⟩
theorem rooms_low (hv : validNet l = true) (t : Nat) : Low_ l H (roomsN l H t) := fun x hx => above_least hv t hx
noncomputable def fin_ (l : List Node) (H : Nat → Nat → Bool) (t x : Nat) : Bool := decide ((roomsN l H t).getD x 0 = (least_ l H x : Int))
theorem fin_step (hv : validNet l = true) (t : Nat) {x : Nat} (hx : x < l.length + 64) (h : fin_ l H t x = true) : fin_ l H (t + 1) x = true := by
  unfold fin_ at h ⊢
  rw [decide_eq_true_eq] at h ⊢
  have h1 := (fold_low (H := H) hv (portsTo l l.length 0) (roomsN l H t) (fun p hp => mem_ports_all.1 hp) (roomsN_len l H t) (rooms_low hv t)).2.1 x
  have h2 := rooms_low (H := H) hv (t + 1) x hx
  have h3 : (roomsN l H (t + 1)).getD x 0 = ((portsTo l l.length 0).foldl (stepR l H) (roomsN l H t)).getD x 0 := rfl
  omega
theorem fin_root (hv : validNet l = true) (t : Nat) {x : Nat} (hx : x < l.length + 64) : fin_ l H t (least_ l H x) = true := by
  have hlt : least_ l H x < l.length + 64 := Nat.lt_of_le_of_lt (least_self_le x) hx
  unfold fin_
  rw [decide_eq_true_eq]
  have h1 := rooms_low (H := H) hv t _ hlt
  have h2 := (rooms_sound (H := H) (β := Unit) hv (fun _ => ()) (fun _ _ _ _ _ => rfl) t _ hlt).2.1
  rw [least_self] at h1 ⊢
  omega
/-- While one place lacks its number, a round gives one more its own. -/
theorem fin_more (hv : validNet l = true) (t : Nat) {x : Nat} (hx : x < l.length + 64) (h : fin_ l H t x = false) : ∃ y, y < l.length + 64 ∧ fin_ l H t y = false ∧ fin_ l H (t + 1) y = true := by
  refine Classical.byContradiction fun hno => ?_
  have hno' : ∀ y, y < l.length + 64 → fin_ l H t y = false → fin_ l H (t + 1) y = false := fun y hy h1 => by
    cases h2 : fin_ l H (t + 1) y
    · rfl
    · exact (hno ⟨y, hy, h1, h2⟩).elim
  have hed : EdgeOk l H (fun z => fin_ l H t z = true) := fun i k hi hk hH => by
    have hb := lanOf_lt hv (p := (i, k)) ⟨hi, hk⟩
    have h3 := (fold_low (H := H) hv (portsTo l l.length 0) (roomsN l H t) (fun p hp => mem_ports_all.1 hp) (roomsN_len l H t) (rooms_low hv t)).2.2 (i, k) (mem_ports_all.2 ⟨hi, hk⟩) hH
    apply propext
    constructor
    · intro h1
      cases h2 : fin_ l H t (lanOf l (i, k))
      · have h4 := hno' _ hb h2
        unfold fin_ at h1 h4
        simp only [decide_eq_true_eq, decide_eq_false_iff_not] at h1 h4
        exact (h4 (h3.1 h1)).elim
      · exact h2
    · intro h1
      cases h2 : fin_ l H t i
      · have h4 := hno' i (by omega) h2
        unfold fin_ at h1 h4
        simp only [decide_eq_true_eq, decide_eq_false_iff_not] at h1 h4
        exact (h4 (h3.2 h1)).elim
      · exact h2
  have := least_conn l H x _ hed
  simp only [h, fin_root hv t hx, Bool.false_eq_true] at this
  exact absurd this (by simp)
theorem fin_count (hv : validNet l = true) : ∀ t, (∀ x, x < l.length + 64 → fin_ l H t x = true) ∨ t ≤ ((List.range (l.length + 64)).filter (fin_ l H t)).length
  | 0 => .inr (Nat.zero_le _)
  | t + 1 => by
    rcases fin_count hv t with h | h
    · exact .inl fun x hx => fin_step hv t hx (h x hx)
    · by_cases hall : ∀ x, x < l.length + 64 → fin_ l H t x = true
      · exact .inl fun x hx => fin_step hv t hx (hall x hx)
      · right
        have : ∃ x, x < l.length + 64 ∧ fin_ l H t x = false := Classical.byContradiction fun hno => hall fun x hx => by
          cases h1 : fin_ l H t x
          · exact (hno ⟨x, hx, h1⟩).elim
          · rfl
        obtain ⟨x, hx, h1⟩ := this
        obtain ⟨y, hy, h2, h3⟩ := fin_more hv t hx h1
        have hlt := filter_lt (p := fun z => fin_ l H t z && decide (z < l.length + 64)) (q := fin_ l H (t + 1)) (fun z hz => by
          simp only [Bool.and_eq_true, decide_eq_true_eq] at hz
          exact fin_step hv t hz.2 hz.1) (List.range (l.length + 64)) y (by simpa using hy) (by simp [h2]) h3
        have e : (List.range (l.length + 64)).filter (fun z => fin_ l H t z && decide (z < l.length + 64)) = (List.range (l.length + 64)).filter (fin_ l H t) :=
          List.filter_congr fun z hz => by simp [List.mem_range.1 hz]
        rw [e] at hlt
        omega
/-- In the end each place has the least of its room. -/
theorem rooms_least (hv : validNet l = true) {x : Nat} (hx : x < l.length + 64) : (roomsM l H).getD x 0 = (least_ l H x : Int) := by
  have hall : ∀ x, x < l.length + 64 → fin_ l H (l.length + 64) x = true := by
    rcases fin_count (H := H) hv (l.length + 64) with h | h
    · exact h
    · intro x hx
      cases hf : fin_ l H (l.length + 64) x
      · have := filter_lt (p := fin_ l H (l.length + 64)) (q := fun _ => true) (fun _ _ => rfl) (List.range (l.length + 64)) x (by simpa using hx) hf rfl
        have e : ((List.range (l.length + 64)).filter fun _ => true).length = l.length + 64 := by
          rw [List.filter_eq_self.2 (fun _ _ => rfl)]; simp
        omega
      · rfl
  have := hall x hx
  unfold fin_ at this
  rw [decide_eq_true_eq] at this
  exact this
theorem rooms_edge (hv : validNet l = true) {i k : Nat} (hi : i < l.length) (hk : k < (nodeAt l i).ports.length) (h : H i k = true) : (roomsM l H).getD i 0 = (roomsM l H).getD (lanOf l (i, k)) 0 := by
  rw [rooms_least hv (by omega), rooms_least hv (lanOf_lt hv (p := (i, k)) ⟨hi, hk⟩), least_edge hi hk h]
/-- By ports that join as much the rooms are the same. -/
theorem rooms_same (hv : validNet l = true) {K : Nat → Nat → Bool} (hK : ∀ i k, i < l.length → k < (nodeAt l i).ports.length → K i k = true → H i k = true)
    (hj : ∀ i k, i < l.length → k < (nodeAt l i).ports.length → H i k = true → (roomsM l K).getD i 0 = (roomsM l K).getD (lanOf l (i, k)) 0) : roomsM l H = roomsM l K := by
  have len1 : (roomsM l H).length = l.length + 64 := roomsN_len l H _
  have len2 : (roomsM l K).length = l.length + 64 := roomsN_len l K _
  apply List.ext_getElem (by rw [len1, len2])
  intro x h1 h2
  have hx : x < l.length + 64 := by omega
  have e1 : (roomsM l H).getD x 0 = (roomsM l H)[x] := by simp [List.getD_eq_getElem?_getD, List.getElem?_eq_getElem h1]
  have e2 : (roomsM l K).getD x 0 = (roomsM l K)[x] := by simp [List.getD_eq_getElem?_getD, List.getElem?_eq_getElem h2]
  rw [← e1, ← e2]
  have a := rooms_sound (H := H) hv (fun z => (roomsM l K).getD z 0) hj (l.length + 64) x hx
  have b := rooms_sound (H := K) hv (fun z => (roomsM l H).getD z 0) (fun i k hi hk h => rooms_edge hv hi hk (hK i k hi hk h)) (l.length + 64) x hx
  have a' : 0 ≤ (roomsM l H).getD x 0 ∧ (roomsM l H).getD x 0 ≤ (x : Int) ∧ (roomsM l K).getD ((roomsM l H).getD x 0).toNat 0 = (roomsM l K).getD x 0 := a
  have b' : 0 ≤ (roomsM l K).getD x 0 ∧ (roomsM l K).getD x 0 ≤ (x : Int) ∧ (roomsM l H).getD ((roomsM l K).getD x 0).toNat 0 = (roomsM l H).getD x 0 := b
  have c := rooms_sound (H := K) (β := Unit) hv (fun _ => ()) (fun _ _ _ _ _ => rfl) (l.length + 64) ((roomsM l H).getD x 0).toNat (by omega)
  have d := rooms_sound (H := H) (β := Unit) hv (fun _ => ()) (fun _ _ _ _ _ => rfl) (l.length + 64) ((roomsM l K).getD x 0).toNat (by omega)
  have c' : (roomsM l K).getD ((roomsM l H).getD x 0).toNat 0 ≤ (((roomsM l H).getD x 0).toNat : Int) := c.2.1
  have d' : (roomsM l H).getD ((roomsM l K).getD x 0).toNat 0 ≤ (((roomsM l K).getD x 0).toNat : Int) := d.2.1
  omega
end
end Go.Proofs.Ythpgdipcdllfdaa

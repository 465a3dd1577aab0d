/- Ports that pass join what all join, and are as many as there are places but for one of each room. No program in sight. -/
import Derived.Test.YthpgdipcdllfdaaRooms3
namespace Go.Proofs.Ythpgdipcdllfdaa
theorem nodup_sub {α : Type} : ∀ (L M : List α), L.Nodup → (∀ a ∈ L, a ∈ M) → L.length ≤ M.length
  | [], _, _, _ => by simp
  | a :: L, M, hL, h => by
    classical
    have ha := h a (List.mem_cons_self ..)
    have hn := List.nodup_cons.1 hL
    have ih := nodup_sub L (M.erase a) hn.2 (fun b hb => by
      have hb' := h b (List.mem_cons_of_mem _ hb)
      have hne : b ≠ a := fun e => by subst e; exact hn.1 hb
      exact (List.mem_erase_of_ne hne).2 hb')
    have h1 := List.length_erase_of_mem ha
    have h2 : 0 < M.length := List.length_pos_of_mem ha
    simp only [List.length_cons]
    omega
theorem rel_le {α β : Type} (R : α → β → Prop) (L : List α) (M : List β) (hL : L.Nodup) (h : ∀ a ∈ L, ∃ b ∈ M, R a b) (hi : ∀ a ∈ L, ∀ a' ∈ L, ∀ b, R a b → R a' b → a = a') : L.length ≤ M.length := by
  cases L with
  | nil => simp
  | cons a0 L =>
    obtain ⟨b0, _⟩ := h a0 (List.mem_cons_self ..)
    have hf : ∃ f : α → β, ∀ a ∈ a0 :: L, f a ∈ M ∧ R a (f a) := by
      classical
      refine ⟨fun a => if ha : a ∈ a0 :: L then Classical.choose (h a ha) else b0, fun a ha => ?_⟩
      simp only [dif_pos ha]
      exact Classical.choose_spec (h a ha)
    obtain ⟨f, hf⟩ := hf
    have hn : ((a0 :: L).map f).Nodup := by
      unfold List.Nodup at *
      rw [List.pairwise_map]
      exact List.Pairwise.imp_of_mem (fun {a b} ha hb hne e => hne (hi a ha b hb (f a) (hf a ha).2 (by rw [e]; exact (hf b hb).2))) hL
    have := nodup_sub ((a0 :: L).map f) M hn (fun b hb => by
      obtain ⟨a, ha, rfl⟩ := List.mem_map.1 hb
      exact (hf a ha).1)
    simpa using this
theorem rel_eq {α β : Type} (R : α → β → Prop) (L : List α) (M : List β) (hL : L.Nodup) (hM : M.Nodup) (h : ∀ a ∈ L, ∃ b ∈ M, R a b) (hi : ∀ a ∈ L, ∀ a' ∈ L, ∀ b, R a b → R a' b → a = a')
    (k : ∀ b ∈ M, ∃ a ∈ L, R a b) (ki : ∀ b ∈ M, ∀ b' ∈ M, ∀ a, R a b → R a b' → b = b') : L.length = M.length :=
  Nat.le_antisymm (rel_le R L M hL h hi) (rel_le (fun b a => R a b) M L hM k (fun b hb b' hb' a h1 h2 => ki b hb b' hb' a h1 h2))
theorem filter_not {α : Type} (p : α → Bool) : ∀ L : List α, (L.filter p).length + (L.filter fun x => !p x).length = L.length
  | [] => rfl
  | a :: L => by
    have ih := filter_not p L
    cases h : p a <;> simp [h] <;> omega
theorem filter_or {α : Type} (p q r : α → Bool) (h : ∀ x, r x = (p x || q x)) (hd : ∀ x, ¬ (p x = true ∧ q x = true)) : ∀ L : List α, (L.filter r).length = (L.filter p).length + (L.filter q).length
  | [] => rfl
  | a :: L => by
    have ih := filter_or p q r h hd L
    have h1 := h a
    have h2 := hd a
    cases hp : p a <;> cases hq : q a <;> simp_all <;> omega
section
variable {l : List Node} {V : List Vec}
def passH (l : List Node) (V : List Vec) (i k : Nat) : Bool := decide (roleAt l V i k ≠ 3)
theorem pass_or (i k : Nat) : passH l V i k = (bestAt l V i k || decide (roleAt l V i k = 2)) := by
  unfold passH
  cases hb : bestAt l V i k
  · have h1 : roleAt l V i k ≠ 1 := fun h => by rw [role_one.1 h] at hb; cases hb
    rcases role_range (l := l) (V := V) (i := i) (k := k) with h | h | h
    · exact (h1 h).elim
    · simp [h]
    · simp [h]
  · have h1 := role_one.2 hb
    simp [h1]
section
variable (hv : validNet l = true) (h : Sol l V)
include hv h
omit h in
/-- A LAN's Designated port. -/
theorem lan_designated {i k : Nat} (hi : i < l.length) (hk : k < (nodeAt l i).ports.length) : ∃ j m, j < l.length ∧ m < (nodeAt l j).ports.length ∧ (memAt l j m).lan = (memAt l i k).lan ∧ bestAt l V j m = true := by
  have h1 := one_designated (V := V) hv (memAt l i k).lan
  have h2 := cnt_pos (f := onL l (memAt l i k).lan) (mem_ports_all.2 ⟨hi, hk⟩ : (i, k) ∈ portsTo l l.length 0) (by unfold onL; simp)
  have h3 : 0 < cnt (desL l V (memAt l i k).lan) (portsTo l l.length 0) := by omega
  unfold cnt at h3
  obtain ⟨p, hp⟩ := List.exists_mem_of_length_pos h3
  rw [List.mem_filter, mem_ports_all] at hp
  have h4 := hp.2
  unfold desL onL at h4
  simp only [Bool.and_eq_true, decide_eq_true_eq] at h4
  exact ⟨p.1, p.2, hp.1.1, hp.1.2, h4.1, h4.2⟩
/-- A node's own RootPort, and the Designated port there. -/
theorem root_up {i : Nat} (hi : i < l.length) (hr : (vecAt V i).root ≠ brAt l i) : ∃ k j m, k < (nodeAt l i).ports.length ∧ j < l.length ∧ m < (nodeAt l j).ports.length ∧ (memAt l j m).lan = (memAt l i k).lan ∧ roleAt l V i k = 2 ∧ bestAt l V j m = true ∧ (vecAt V j).root = (vecAt V i).root ∧ (vecAt V j).cost < (vecAt V i).cost := by
  rcases sol_hit' hv h hi with e | ⟨k, j, m, hk, hj, hm, ho, hne, e⟩
  · rw [e] at hr; exact (hr rfl).elim
  · have hb := root_not_best hv h hi hk hj hm ho e
    have hat : (vecAt V i).at_ = (memAt l i k).port := by rw [e]; rfl
    have h2 : roleAt l V i k = 2 := role_two.2 ⟨hb, hr, hat⟩
    obtain ⟨j', m', hj', hm', hlan, hbest⟩ := lan_designated (V := V) hv hi hk
    have hlan2 := (onLan_lan ho).1
    refine ⟨k, j', m', hk, hj', hm', hlan, h2, hbest, (lan_root h hi hk hj' hm' hlan).symm, ?_⟩
    have hc : (vecAt V i).cost = (vecAt V j).cost + (memAt l i k).cost := by rw [e]; rfl
    have hp := (cost_pos hv hi hk).1
    have hle : (vecAt V j').cost ≤ (vecAt V j).cost := by
      by_cases hne' : j = j' ∧ m = m'
      · rw [hne'.1]; exact Int.le_refl _
      · have h3 := best_iff.1 hbest j m hj hm (onLan_of j' m' j m (hlan2.trans hlan.symm) hne')
        rw [better_parts] at h3
        simp only [Bool.or_eq_false_iff, Bool.and_eq_false_iff, decide_eq_false_iff_not] at h3
        have hrr : (tellAt l V j m).root = (tellAt l V j' m').root := by
          show (vecAt V j).root = (vecAt V j').root
          exact (lan_root h hj hm hj' hm' (hlan.trans hlan2.symm))
        rcases h3.2 with h4 | h4
        · exact (h4 hrr).elim
        · have h5 : ¬ (vecAt V j).cost < (vecAt V j').cost := h4.1
          omega
    omega
/-- By ports that pass each node hangs together with its root. -/
theorem to_root : ∀ (c : Nat) (i : Nat), i < l.length → (vecAt V i).cost.toNat ≤ c → ∃ t, t < l.length ∧ brAt l t = (vecAt V i).root ∧ (roomsM l (passH l V)).getD i 0 = (roomsM l (passH l V)).getD t 0 := by
  intro c
  induction c with
  | zero =>
    intro i hi hc
    have h0 := sol_cost h hi
    have h1 := (cost_zero hv h hi).2 (by omega)
    exact ⟨i, hi, h1.symm, rfl⟩
  | succ c ih =>
    intro i hi hc
    by_cases hr : (vecAt V i).root = brAt l i
    · exact ⟨i, hi, hr.symm, rfl⟩
    · obtain ⟨k, j, m, hk, hj, hm, hlan, h2, hb, hroot, hcost⟩ := root_up hv h hi hr
      have h0 := sol_cost h hj
      obtain ⟨t, ht, hbt, hrt⟩ := ih j hj (by omega)
      refine ⟨t, ht, hbt.trans hroot, ?_⟩
      have e1 := rooms_edge (H := passH l V) hv hi hk (by rw [pass_or]; simp [h2])
      have e2 := rooms_edge (H := passH l V) hv hj hm (by rw [pass_or]; simp [hb])
      have e3 : lanOf l (i, k) = lanOf l (j, m) := by unfold lanOf; simp only [hlan]
      rw [e1, e3, ← e2, hrt]
theorem pass_join {i k : Nat} (hi : i < l.length) (hk : k < (nodeAt l i).ports.length) : (roomsM l (passH l V)).getD i 0 = (roomsM l (passH l V)).getD (lanOf l (i, k)) 0 := by
  obtain ⟨j, m, hj, hm, hlan, hb⟩ := lan_designated (V := V) hv hi hk
  obtain ⟨t, ht, hbt, hrt⟩ := to_root hv h _ i hi (Nat.le_refl _)
  obtain ⟨t', ht', hbt', hrt'⟩ := to_root hv h _ j hj (Nat.le_refl _)
  have hr := lan_root h hi hk hj hm hlan
  have htt : t = t' := br_inj hv ht ht' (by
    have : brAt l t = brAt l t' := by rw [hbt, hbt', hr]
    exact this)
  subst htt
  have e2 := rooms_edge (H := passH l V) hv hj hm (by rw [pass_or]; simp [hb])
  have e3 : lanOf l (i, k) = lanOf l (j, m) := by unfold lanOf; simp only [hlan]
  rw [e3, ← e2, hrt, hrt']
theorem all_some : roomsM l (fun _ _ => true) = roomsM l (passH l V) :=
  rooms_same (H := fun _ _ => true) (K := passH l V) hv (fun _ _ _ _ _ => rfl) (fun i k hi hk _ => pass_join hv h hi hk)
/-! ### As many as there are -/
def isFix (l : List Node) (V : List Vec) (x : Nat) : Bool := decide ((roomsM l (passH l V)).getD x 0 = (x : Int))
def hasLan (l : List Node) (lan : Nat) : Bool := (portsTo l l.length 0).any fun p => decide (lanOf l p = l.length + lan)
omit h in
theorem room_le {x : Nat} (hx : x < l.length + 64) : 0 ≤ (roomsM l (passH l V)).getD x 0 ∧ (roomsM l (passH l V)).getD x 0 ≤ (x : Int) := by
  have := rooms_sound (H := passH l V) (β := Unit) hv (fun _ => ()) (fun _ _ _ _ _ => rfl) (l.length + 64) x hx
  exact ⟨this.1, this.2.1⟩
theorem room_self {x : Nat} (hx : x < l.length + 64) : (roomsM l (passH l V)).getD ((roomsM l (passH l V)).getD x 0).toNat 0 = (roomsM l (passH l V)).getD x 0 :=
  (rooms_sound (H := passH l V) hv (fun z => (roomsM l (passH l V)).getD z 0) (fun i k hi hk _ => pass_join hv h hi hk) (l.length + 64) x hx).2.2
omit h in
theorem fix_lone {lan : Nat} (hl : lan < 64) (hn : hasLan l lan = false) : isFix l V (l.length + lan) = true := by
  unfold hasLan at hn
  rw [List.any_eq_false] at hn
  have hs := rooms_sound (H := passH l V) hv (fun z => decide (z = l.length + lan)) (fun i k hi hk _ => by
    have h1 : ¬ i = l.length + lan := by omega
    have h2 := hn (i, k) (mem_ports_all.2 ⟨hi, hk⟩)
    rw [decide_eq_true_eq] at h2
    simp [h1, h2]) (l.length + 64) (l.length + lan) (by omega)
  have h3 := hs.2.2
  simp only [decide_true, decide_eq_true_eq] at h3
  unfold isFix
  rw [decide_eq_true_eq]
  have h0 := hs.1
  have : (roomsM l (passH l V)).getD (l.length + lan) 0 = (roomsN l (passH l V) (l.length + 64)).getD (l.length + lan) 0 := rfl
  omega
theorem fix_lan {lan : Nat} (hl : lan < 64) (hn : hasLan l lan = true) : isFix l V (l.length + lan) = false := by
  unfold hasLan at hn
  rw [List.any_eq_true] at hn
  obtain ⟨p, hp, he⟩ := hn
  rw [mem_ports_all] at hp
  rw [decide_eq_true_eq] at he
  unfold isFix
  rw [decide_eq_false_iff_not]
  intro hc
  have h1 := pass_join hv h hp.1 hp.2
  have h2 := (room_le (V := V) hv (x := p.1) (by omega)).2
  have e : lanOf l (p.1, p.2) = l.length + lan := he
  rw [e, hc] at h1
  omega
omit h in
theorem des_lans : ((portsTo l l.length 0).filter fun p => bestAt l V p.1 p.2).length = ((List.range 64).filter (hasLan l)).length := by
  refine rel_eq (fun (p : Nat × Nat) (lan : Nat) => lanOf l p = l.length + lan) _ _ ((nodup_portsTo l.length 0 (Nat.zero_le _)).filter _) (List.nodup_range.filter _) ?_ ?_ ?_ ?_
  · intro p hp
    rw [List.mem_filter] at hp
    have h1 := mem_ports_all.1 hp.1
    have h2 := lanOf_lt hv h1
    have h3 : l.length ≤ lanOf l p := by unfold lanOf; omega
    refine ⟨lanOf l p - l.length, List.mem_filter.2 ⟨by simp; omega, ?_⟩, by omega⟩
    unfold hasLan
    rw [List.any_eq_true]
    exact ⟨p, hp.1, by rw [decide_eq_true_eq]; omega⟩
  · intro p hp q hq lan h1 h2
    rw [List.mem_filter, mem_ports_all] at hp hq
    have := best_unique hv hp.1.1 hp.1.2 hq.1.1 hq.1.2 (lanOf_inj hv hq.1 hp.1 (h2.trans h1.symm)) hp.2 hq.2
    exact Prod.ext this.1 this.2
  · intro lan hlan
    rw [List.mem_filter] at hlan
    have h1 := hlan.2
    unfold hasLan at h1
    rw [List.any_eq_true] at h1
    obtain ⟨p, hp, he⟩ := h1
    rw [decide_eq_true_eq] at he
    have hp' := mem_ports_all.1 hp
    obtain ⟨j, m, hj, hm, hl2, hb⟩ := lan_designated (V := V) hv hp'.1 hp'.2
    refine ⟨(j, m), List.mem_filter.2 ⟨mem_ports_all.2 ⟨hj, hm⟩, hb⟩, ?_⟩
    rw [← he]
    unfold lanOf
    simp only [hl2]
  · intro a _ b _ p h1 h2
    omega
theorem roots_nodes : ((portsTo l l.length 0).filter fun p => decide (roleAt l V p.1 p.2 = 2)).length = ((List.range l.length).filter fun i => !decide ((vecAt V i).root = brAt l i)).length := by
  refine rel_eq (fun (p : Nat × Nat) (i : Nat) => p.1 = i) _ _ ((nodup_portsTo l.length 0 (Nat.zero_le _)).filter _) (List.nodup_range.filter _) ?_ ?_ ?_ ?_
  · intro p hp
    rw [List.mem_filter, mem_ports_all, decide_eq_true_eq] at hp
    exact ⟨p.1, List.mem_filter.2 ⟨by simpa using hp.1.1, by simpa using (role_two.1 hp.2).2.1⟩, rfl⟩
  · intro p hp q hq i h1 h2
    rw [List.mem_filter, mem_ports_all, decide_eq_true_eq] at hp hq
    obtain ⟨a, b⟩ := p
    obtain ⟨c, d⟩ := q
    simp only at h1 h2
    subst h1
    subst h2
    have e := port_inj hv hp.1.1 hp.1.2 hq.1.2 ((role_two.1 hp.2).2.2.symm.trans (role_two.1 hq.2).2.2)
    exact Prod.ext rfl e
  · intro i hi
    rw [List.mem_filter] at hi
    have h1 : i < l.length := by simpa using hi.1
    have h2 : (vecAt V i).root ≠ brAt l i := by simpa using hi.2
    obtain ⟨k, j, m, hk, _, _, _, h3, _⟩ := root_up hv h h1 h2
    exact ⟨(i, k), List.mem_filter.2 ⟨mem_ports_all.2 ⟨h1, hk⟩, by simpa using h3⟩, rfl⟩
  · intro a _ b _ p h1 h2
    omega
theorem fix_roots : ((List.range l.length).filter (isFix l V)).length = ((List.range l.length).filter fun i => decide ((vecAt V i).root = brAt l i)).length := by
  refine rel_eq (fun (x t : Nat) => (roomsM l (passH l V)).getD t 0 = (x : Int)) _ _ (List.nodup_range.filter _) (List.nodup_range.filter _) ?_ ?_ ?_ ?_
  · intro x hx
    rw [List.mem_filter] at hx
    have hxl : x < l.length := by simpa using hx.1
    have hf := hx.2
    unfold isFix at hf
    rw [decide_eq_true_eq] at hf
    obtain ⟨t, ht, hbt, hrt⟩ := to_root hv h _ x hxl (Nat.le_refl _)
    refine ⟨t, List.mem_filter.2 ⟨by simpa using ht, ?_⟩, by rw [← hrt, hf]⟩
    rw [decide_eq_true_eq, room_root (H := passH l V) hv h ht hxl hrt.symm, hbt]
  · intro a ha b hb t h1 h2
    omega
  · intro t ht
    rw [List.mem_filter] at ht
    have htl : t < l.length := by simpa using ht.1
    have h1 := room_le (V := V) hv (x := t) (by omega)
    have h2 := room_self hv h (x := t) (by omega)
    refine ⟨((roomsM l (passH l V)).getD t 0).toNat, List.mem_filter.2 ⟨List.mem_range.2 (by omega), ?_⟩, by omega⟩
    unfold isFix
    rw [decide_eq_true_eq, h2]; omega
  · intro a ha b hb x h1 h2
    rw [List.mem_filter] at ha hb
    have hal : a < l.length := by simpa using ha.1
    have hbl : b < l.length := by simpa using hb.1
    have e := room_root (H := passH l V) hv h hal hbl (h1.trans h2.symm)
    have ea : (vecAt V a).root = brAt l a := by simpa using ha.2
    have eb : (vecAt V b).root = brAt l b := by simpa using hb.2
    exact br_inj hv hal hbl (by
      have : brAt l a = brAt l b := by rw [← ea, ← eb, e]
      exact this)
/-- Edges and rooms make up all places. -/
theorem pass_count (K : List Int) (hK : K.Nodup) (hKm : ∀ v, v ∈ K ↔ ∃ x, x < l.length + 64 ∧ (roomsM l (passH l V)).getD x 0 = v) : cnt (fun p => passH l V p.1 p.2) (portsTo l l.length 0) + K.length = l.length + 64 := by
  have h1 : cnt (fun p => passH l V p.1 p.2) (portsTo l l.length 0) = ((portsTo l l.length 0).filter fun p => bestAt l V p.1 p.2).length + ((portsTo l l.length 0).filter fun p => decide (roleAt l V p.1 p.2 = 2)).length :=
    filter_or (fun p : Nat × Nat => bestAt l V p.1 p.2) (fun p : Nat × Nat => decide (roleAt l V p.1 p.2 = 2)) (fun p : Nat × Nat => passH l V p.1 p.2) (fun p => pass_or p.1 p.2) (fun p hh => by
      have a := role_one.2 hh.1
      have b := of_decide_eq_true hh.2
      rw [a] at b
      exact absurd b (by decide)) (portsTo l l.length 0)
  have h2 := des_lans (V := V) hv
  have h3 := roots_nodes hv h
  have h4 := fix_roots hv h
  have h5 := filter_not (fun i => decide ((vecAt V i).root = brAt l i)) (List.range l.length)
  have h6 := filter_not (hasLan l) (List.range 64)
  rw [List.length_range] at h5 h6
  have h7 : K.length = ((List.range (l.length + 64)).filter (isFix l V)).length := by
    refine rel_eq (fun (v : Int) (x : Nat) => v = x) _ _ hK (List.nodup_range.filter _) ?_ ?_ ?_ ?_
    · intro v hvK
      obtain ⟨x, hx, e⟩ := (hKm v).1 hvK
      have a := room_le (V := V) hv hx
      have b := room_self hv h hx
      rw [e] at a b
      refine ⟨v.toNat, List.mem_filter.2 ⟨List.mem_range.2 (by omega), ?_⟩, by omega⟩
      unfold isFix
      rw [decide_eq_true_eq, b]; omega
    · intro a _ b _ x h1 h2
      omega
    · intro x hx
      rw [List.mem_filter] at hx
      have hxl : x < l.length + 64 := by simpa using hx.1
      have hf := hx.2
      unfold isFix at hf
      rw [decide_eq_true_eq] at hf
      exact ⟨x, (hKm x).2 ⟨x, hxl, hf⟩, rfl⟩
    · intro a _ b _ v h1 h2
      omega
  have h8 : ((List.range (l.length + 64)).filter (isFix l V)).length = ((List.range l.length).filter (isFix l V)).length + ((List.range 64).filter fun x => !hasLan l x).length := by
    rw [List.range_add, List.filter_append, List.length_append, List.filter_map, List.length_map]
    congr 2
    refine List.filter_congr fun x hx => ?_
    have hx64 : x < 64 := by simpa using hx
    show isFix l V (l.length + x) = _
    cases hh : hasLan l x
    · rw [fix_lone hv hx64 hh]; rfl
    · rw [fix_lan hv h hx64 hh]; rfl
  omega
end
end
end Go.Proofs.Ythpgdipcdllfdaa

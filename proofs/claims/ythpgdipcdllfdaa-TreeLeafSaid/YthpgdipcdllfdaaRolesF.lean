/- What holds of roles: one Designated port for each LAN, one RootPort for each node but a root. No program in sight. -/
import Derived.Test.YthpgdipcdllfdaaTreeF
namespace Go.Proofs.Ythpgdipcdllfdaa
theorem exists_min {α : Type} (r : α → α → Bool) (hi : ∀ a, r a a = false) (ht : ∀ a b c, r a b = true → r b c = true → r a c = true) : ∀ (L : List α) (a : α), ∃ x ∈ a :: L, ∀ y ∈ a :: L, r y x = false
  | [], a => ⟨a, List.mem_cons_self .., fun y hy => by rw [List.mem_singleton.1 hy]; exact hi a⟩
  | b :: L, a => by
    obtain ⟨x, hx, h⟩ := exists_min r hi ht L b
    cases hax : r a x
    · refine ⟨x, List.mem_cons_of_mem _ hx, fun y hy => ?_⟩
      rcases List.mem_cons.1 hy with rfl | hy
      · exact hax
      · exact h y hy
    · refine ⟨a, List.mem_cons_self .., fun y hy => ?_⟩
      rcases List.mem_cons.1 hy with rfl | hy
      · exact hi y
      · cases hya : r y a
        · rfl
        · have := ht y a x hya hax
          rw [h y hy] at this; cases this
theorem distinctP_ne : ∀ {ms : List Mem}, distinctP ms = true → ∀ {j k : Nat}, j < k → k < ms.length → (ms.getD j default).port ≠ (ms.getD k default).port
  | [], _, _, _, _, hk => absurd hk (by simp)
  | m :: r, h, j, k, hj, hk => by
    unfold distinctP at h
    rw [Bool.and_eq_true, List.all_eq_true] at h
    cases k with
    | zero => omega
    | succ k =>
      have hk' : k < r.length := by simpa using hk
      cases j with
      | zero =>
        have h1 := h.1 _ (getD_mem r default hk')
        intro e
        have e' : m.port = (r.getD k default).port := e
        simp only [Bool.not_eq_true', decide_eq_false_iff_not, ne_eq, decide_not] at h1
        first
          | exact h1 e'
          | exact h1 e'.symm
      | succ j => exact distinctP_ne h.2 (by omega) hk'
theorem distinctB_ne : ∀ {ms : List Node}, distinctB ms = true → ∀ {j k : Nat}, j < k → k < ms.length → (ms.getD j default).br ≠ (ms.getD k default).br
  | [], _, _, _, _, hk => absurd hk (by simp)
  | m :: r, h, j, k, hj, hk => by
    unfold distinctB at h
    rw [Bool.and_eq_true, List.all_eq_true] at h
    cases k with
    | zero => omega
    | succ k =>
      have hk' : k < r.length := by simpa using hk
      cases j with
      | zero =>
        have h1 := h.1 _ (getD_mem r default hk')
        intro e
        have e' : m.br = (r.getD k default).br := e
        simp only [Bool.not_eq_true', decide_eq_false_iff_not, ne_eq, decide_not] at h1
        first
          | exact h1 e'
          | exact h1 e'.symm
      | succ j => exact distinctB_ne h.2 (by omega) hk'
section
variable {l : List Node}
theorem br_inj (hv : validNet l = true) {i j : Nat} (hi : i < l.length) (hj : j < l.length) (h : (nodeAt l i).br = (nodeAt l j).br) : i = j := by
  unfold validNet at hv
  rw [Bool.and_eq_true] at hv
  rcases Nat.lt_trichotomy i j with hlt | rfl | hlt
  · exact (distinctB_ne hv.2 hlt hj h).elim
  · rfl
  · exact (distinctB_ne hv.2 hlt hi h.symm).elim
theorem port_inj (hv : validNet l = true) {i j k : Nat} (hi : i < l.length) (hj : j < (nodeAt l i).ports.length) (hk : k < (nodeAt l i).ports.length) (h : (memAt l i j).port = (memAt l i k).port) : j = k := by
  have hd := valid_node hv hi
  unfold rightN at hd
  rw [Bool.and_eq_true] at hd
  rcases Nat.lt_trichotomy j k with hlt | rfl | hlt
  · exact (distinctP_ne hd.2 hlt hk h).elim
  · rfl
  · exact (distinctP_ne hd.2 hlt hj h.symm).elim
def tellAt (l : List Node) (V : List Vec) (i k : Nat) : Vec := tellsM (nodeAt l i) (vecAt V i) k
theorem best_iff {V : List Vec} {i k : Nat} : bestAt l V i k = true ↔ ∀ j m, j < l.length → m < (nodeAt l j).ports.length → onLan l i k j m = true → better (tellAt l V j m) (tellAt l V i k) = false := by
  unfold bestAt
  rw [Bool.not_eq_true', List.any_eq_false]
  constructor
  · intro h j m hj hm ho
    exact (Bool.not_eq_true _).mp (h _ (mem_others.2 ⟨j, m, hj, hm, ho, rfl⟩))
  · intro h v hv
    obtain ⟨j, m, hj, hm, ho, rfl⟩ := mem_others.1 hv
    exact (Bool.not_eq_true _).mpr (h j m hj hm ho)
section
variable {V : List Vec} (hv : validNet l = true)
include hv
theorem tell_inj {i k j m : Nat} (hi : i < l.length) (hk : k < (nodeAt l i).ports.length) (hj : j < l.length) (hm : m < (nodeAt l j).ports.length) (h : tellAt l V i k = tellAt l V j m) : i = j ∧ k = m := by
  have e1 := congrArg Vec.sender h
  have e2 := congrArg Vec.port h
  obtain rfl := br_inj hv hi hj e1
  exact ⟨rfl, port_inj hv hi hk hm e2⟩
theorem best_unique {i k j m : Nat} (hi : i < l.length) (hk : k < (nodeAt l i).ports.length) (hj : j < l.length) (hm : m < (nodeAt l j).ports.length) (hlan : (memAt l j m).lan = (memAt l i k).lan)
    (h1 : bestAt l V i k = true) (h2 : bestAt l V j m = true) : i = j ∧ k = m := by
  by_cases hne : j = i ∧ m = k
  · exact ⟨hne.1.symm, hne.2.symm⟩
  · have o1 := onLan_of i k j m hlan hne
    have a := best_iff.1 h1 j m hj hm o1
    have b := best_iff.1 h2 i k hi hk (onLan_symm o1)
    exact tell_inj hv hi hk hj hm (better_total b a)
end
/-! ### Ports, in the order of the text -/
def portsTo (l : List Node) (i k : Nat) : List (Nat × Nat) := (List.range i).flatMap (fun j => (List.range (nodeAt l j).ports.length).map (j, ·)) ++ (List.range k).map (i, ·)
theorem portsTo_zero : portsTo l 0 0 = [] := rfl
theorem portsTo_succ (i k : Nat) : portsTo l i (k + 1) = portsTo l i k ++ [(i, k)] := by simp [portsTo, List.range_succ]
theorem portsTo_next (i : Nat) : portsTo l (i + 1) 0 = portsTo l i (nodeAt l i).ports.length := by simp [portsTo, List.range_succ]
theorem mem_portsTo {i k : Nat} {p : Nat × Nat} : p ∈ portsTo l i k ↔ (p.1 < i ∧ p.2 < (nodeAt l p.1).ports.length) ∨ (p.1 = i ∧ p.2 < k) := by
  obtain ⟨a, b⟩ := p
  simp only [portsTo, List.mem_append, List.mem_flatMap, List.mem_range, List.mem_map, Prod.mk.injEq]
  constructor
  · rintro (⟨j, hj, m, hm, rfl, rfl⟩ | ⟨m, hm, rfl, rfl⟩)
    · exact .inl ⟨hj, hm⟩
    · exact .inr ⟨rfl, hm⟩
  · rintro (⟨h1, h2⟩ | ⟨h1, h2⟩)
    · exact .inl ⟨a, h1, b, h2, rfl, rfl⟩
    · exact .inr ⟨b, h2, h1.symm, rfl⟩
theorem mem_ports_all {p : Nat × Nat} : p ∈ portsTo l l.length 0 ↔ p.1 < l.length ∧ p.2 < (nodeAt l p.1).ports.length := by
  rw [mem_portsTo]; constructor
  · rintro (h | h)
    · exact h
    · omega
  · exact .inl
theorem nodup_portsTo : ∀ (i k : Nat), k ≤ (nodeAt l i).ports.length → (portsTo l i k).Nodup := by
  have step : ∀ i k, (portsTo l i k).Nodup → (portsTo l i (k + 1)).Nodup := fun i k h => by
    rw [portsTo_succ, List.nodup_append]
    refine ⟨h, by simp, fun a ha b hb => ?_⟩
    rw [List.mem_singleton.1 hb]
    rintro rfl
    rw [mem_portsTo] at ha
    simp at ha
  have row : ∀ i, (portsTo l i 0).Nodup → ∀ k, (portsTo l i k).Nodup := fun i h k => by
    induction k with
    | zero => exact h
    | succ k ih => exact step i k ih
  have head : ∀ i, (portsTo l i 0).Nodup := fun i => by
    induction i with
    | zero => simp [portsTo]
    | succ i ih => rw [portsTo_next]; exact row i ih _
  exact fun i k _ => row i (head i) k
def cnt (f : Nat × Nat → Bool) (L : List (Nat × Nat)) : Nat := (L.filter f).length
theorem cnt_snoc (f : Nat × Nat → Bool) (L : List (Nat × Nat)) (p : Nat × Nat) : cnt f (L ++ [p]) = cnt f L + if f p = true then 1 else 0 := by
  unfold cnt
  rw [List.filter_append, List.length_append]
  cases h : f p <;> simp [h]
theorem cnt_le (f : Nat × Nat → Bool) (L : List (Nat × Nat)) : cnt f L ≤ L.length := List.length_filter_le _ _
theorem cnt_one {f : Nat × Nat → Bool} {L : List (Nat × Nat)} (hL : L.Nodup) (h : ∀ p q, p ∈ L → q ∈ L → f p = true → f q = true → p = q) : cnt f L ≤ 1 := by
  unfold cnt
  have hn := hL.filter f
  have hall : ∀ p q, p ∈ L.filter f → q ∈ L.filter f → p = q := fun p q hp hq => by
    rw [List.mem_filter] at hp hq
    exact h p q hp.1 hq.1 hp.2 hq.2
  match L.filter f, hn, hall with
  | [], _, _ => simp
  | [_], _, _ => simp
  | a :: b :: r, hn, hall =>
    have e := hall a b (by simp) (by simp)
    subst e
    simp at hn
theorem cnt_pos {f : Nat × Nat → Bool} {L : List (Nat × Nat)} {p : Nat × Nat} (hp : p ∈ L) (h : f p = true) : 1 ≤ cnt f L :=
  List.length_pos_of_mem (List.mem_filter.2 ⟨hp, h⟩)
theorem cnt_zero {f : Nat × Nat → Bool} {L : List (Nat × Nat)} (h : ∀ p ∈ L, f p = false) : cnt f L = 0 := by
  unfold cnt
  rw [List.filter_eq_nil_iff.2 (fun p hp => by rw [h p hp]; simp)]; rfl
def onL (l : List Node) (lan : Int) (p : Nat × Nat) : Bool := decide ((memAt l p.1 p.2).lan = lan)
def desL (l : List Node) (V : List Vec) (lan : Int) (p : Nat × Nat) : Bool := onL l lan p && bestAt l V p.1 p.2
theorem one_designated {V : List Vec} (hv : validNet l = true) (lan : Int) : cnt (desL l V lan) (portsTo l l.length 0) = min 1 (cnt (onL l lan) (portsTo l l.length 0)) := by
  have hle : cnt (desL l V lan) (portsTo l l.length 0) ≤ 1 := cnt_one (by
      have := nodup_portsTo (l := l) l.length 0 (Nat.zero_le _); exact this) (fun p q hp hq h1 h2 => by
    rw [mem_ports_all] at hp hq
    unfold desL onL at h1 h2
    simp only [Bool.and_eq_true, decide_eq_true_eq] at h1 h2
    obtain ⟨e1, e2⟩ := best_unique hv hp.1 hp.2 hq.1 hq.2 (h2.1.trans h1.1.symm) h1.2 h2.2
    exact Prod.ext e1 e2)
  by_cases h0 : ∃ p ∈ portsTo l l.length 0, onL l lan p = true
  · obtain ⟨p, hp, h⟩ := h0
    have h1 := cnt_pos hp h
    have hm : p ∈ (portsTo l l.length 0).filter (onL l lan) := List.mem_filter.2 ⟨hp, h⟩
    obtain ⟨L, hL⟩ : ∃ L, L = (portsTo l l.length 0).filter (onL l lan) := ⟨_, rfl⟩
    rw [← hL] at hm
    cases L with
    | nil => cases hm
    | cons a L =>
      obtain ⟨q, hq, hmin⟩ := exists_min (fun (x y : Nat × Nat) => better (tellAt l V x.1 x.2) (tellAt l V y.1 y.2)) (fun x => better_irrefl _) (fun x y z h1 h2 => better_trans h1 h2) L a
      rw [hL, List.mem_filter] at hq
      have hq2 : desL l V lan q = true := by
        unfold desL
        rw [Bool.and_eq_true]
        refine ⟨hq.2, best_iff.2 fun j m hj hmm ho => ?_⟩
        refine hmin (j, m) ?_
        rw [hL, List.mem_filter]
        refine ⟨mem_ports_all.2 ⟨hj, hmm⟩, ?_⟩
        have h3 := (onLan_lan ho).1
        have h4 := hq.2
        unfold onL at h4 ⊢
        rw [decide_eq_true_eq] at h4 ⊢
        exact h3.trans h4
      have := cnt_pos hq.1 hq2
      omega
  · have hz : ∀ p ∈ portsTo l l.length 0, onL l lan p = false := fun p hp => by
      cases h : onL l lan p
      · rfl
      · exact (h0 ⟨p, hp, h⟩).elim
    rw [cnt_zero hz, cnt_zero (fun p hp => by unfold desL; rw [hz p hp]; rfl)]; rfl
/-! ### Roots' ports -/
def roleAt (l : List Node) (V : List Vec) (i k : Nat) : Int := roleM (nodeAt l i) (vecAt V i) k (bestAt l V i k)
theorem role_one {V : List Vec} {i k : Nat} : roleAt l V i k = 1 ↔ bestAt l V i k = true := by
  unfold roleAt roleM
  split
  · simp [*]
  · split <;> simp [*]
theorem role_two {V : List Vec} {i k : Nat} : roleAt l V i k = 2 ↔ bestAt l V i k = false ∧ (vecAt V i).root ≠ brAt l i ∧ (vecAt V i).at_ = (memAt l i k).port := by
  unfold roleAt roleM memAt brAt
  split
  · simp [*]
  · split <;> simp_all
theorem role_range {V : List Vec} {i k : Nat} : roleAt l V i k = 1 ∨ roleAt l V i k = 2 ∨ roleAt l V i k = 3 := by
  unfold roleAt roleM
  split
  · simp
  · split <;> simp
def rootsTo (l : List Node) (V : List Vec) (i k : Nat) : Nat := ((List.range k).filter (fun m => decide (roleAt l V i m = 2))).length
theorem rootsTo_succ {V : List Vec} (i k : Nat) : rootsTo l V i (k + 1) = rootsTo l V i k + if roleAt l V i k = 2 then 1 else 0 := by
  unfold rootsTo
  rw [List.range_succ, List.filter_append, List.length_append]
  by_cases h : roleAt l V i k = 2 <;> simp [h]
theorem rootsTo_le {V : List Vec} (i k : Nat) : rootsTo l V i k ≤ k := by
  unfold rootsTo
  have := List.length_filter_le (fun m => decide (roleAt l V i m = 2)) (List.range k)
  simpa using this
/-- What is told to a node by the port that it takes is better than what it tells there. -/
theorem root_not_best {V : List Vec} (hv : validNet l = true) (h : Sol l V) {i k j m : Nat} (hi : i < l.length) (hk : k < (nodeAt l i).ports.length) (hj : j < l.length) (hm : m < (nodeAt l j).ports.length) (ho : onLan l i k j m = true) (e : vecAt V i = heardOf l (vecAt V j) i k j m) :
    bestAt l V i k = false := by
  cases hb : bestAt l V i k
  · rfl
  · have h1 := best_iff.1 hb j m hj hm ho
    rw [better_parts] at h1
    simp only [Bool.or_eq_false_iff, Bool.and_eq_false_iff, decide_eq_false_iff_not] at h1
    have hr : (tellAt l V j m).root = (tellAt l V i k).root := by
      show (vecAt V j).root = (vecAt V i).root
      rw [e]; rfl
    rcases h1.2 with h2 | h2
    · exact (h2 hr).elim
    · have hc : (vecAt V i).cost = (vecAt V j).cost + (memAt l i k).cost := by rw [e]; rfl
      have hp := (cost_pos hv hi hk).1
      have h3 : ¬ (vecAt V j).cost < (vecAt V i).cost := h2.1
      omega
theorem one_root {V : List Vec} (hv : validNet l = true) (h : Sol l V) {i : Nat} (hi : i < l.length) : rootsTo l V i (nodeAt l i).ports.length = if (vecAt V i).root = brAt l i then 0 else 1 := by
  unfold rootsTo
  by_cases hr : (vecAt V i).root = brAt l i
  · rw [if_pos hr, List.filter_eq_nil_iff.2 (fun m _ => by rw [decide_eq_true_eq, role_two]; exact fun h => h.2.1 hr)]; rfl
  · rw [if_neg hr]
    rcases sol_hit' hv h hi with e | ⟨k, j, m, hk, hj, hm, ho, hne, e⟩
    · rw [e] at hr; exact (hr rfl).elim
    · have hb := root_not_best hv h hi hk hj hm ho e
      have hat : (vecAt V i).at_ = (memAt l i k).port := by rw [e]; rfl
      have hk2 : roleAt l V i k = 2 := role_two.2 ⟨hb, hr, hat⟩
      have huniq : ∀ m, m < (nodeAt l i).ports.length → roleAt l V i m = 2 → m = k := fun m hm h2 =>
        port_inj hv hi hm hk ((role_two.1 h2).2.2.symm.trans hat)
      have hn : ((List.range (nodeAt l i).ports.length).filter (fun m => decide (roleAt l V i m = 2))).Nodup := List.nodup_range.filter _
      have hmem : k ∈ (List.range (nodeAt l i).ports.length).filter (fun m => decide (roleAt l V i m = 2)) := List.mem_filter.2 ⟨by simpa using hk, by simpa using hk2⟩
      have hall : ∀ p ∈ (List.range (nodeAt l i).ports.length).filter (fun m => decide (roleAt l V i m = 2)), p = k := fun p hp => by
        rw [List.mem_filter] at hp
        exact huniq p (by simpa using hp.1) (by simpa using hp.2)
      match (List.range (nodeAt l i).ports.length).filter (fun m => decide (roleAt l V i m = 2)), hn, hmem, hall with
      | [a], _, _, _ => rfl
      | a :: b :: r, hn, _, hall =>
        have e := (hall a (by simp)).trans (hall b (by simp)).symm
        subst e
        simp at hn
end
end Go.Proofs.Ythpgdipcdllfdaa

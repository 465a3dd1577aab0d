/- Least values over a net: a fixed point is unique, and as many rounds as there are nodes reach it. The plain law of the tree; no program in sight. -/
namespace Go.Proofs.YtkicbabfgahmkaaDoor
/-- A value: a root's number, a cost, a label. -/
structure Val where
  r : Nat
  c : Nat
  m : Nat
deriving DecidableEq
def Val.lt (a b : Val) : Prop := a.r < b.r ∨ (a.r = b.r ∧ (a.c < b.c ∨ (a.c = b.c ∧ a.m < b.m)))
instance (a b : Val) : Decidable (Val.lt a b) := by unfold Val.lt; infer_instance
def Val.le (a b : Val) : Prop := ¬ Val.lt b a
theorem Val.ext' {a b : Val} (h1 : a.r = b.r) (h2 : a.c = b.c) (h3 : a.m = b.m) : a = b := by
  cases a; cases b; simp_all
theorem Val.lt_irrefl (a : Val) : ¬ Val.lt a a := by unfold Val.lt; omega
theorem Val.le_refl (a : Val) : Val.le a a := Val.lt_irrefl a
theorem Val.lt_trans {a b c : Val} (h : Val.lt a b) (k : Val.lt b c) : Val.lt a c := by unfold Val.lt at *; omega
theorem Val.le_trans {a b c : Val} (h : Val.le a b) (k : Val.le b c) : Val.le a c := by unfold Val.le Val.lt at *; omega
theorem Val.lt_of_lt_of_le {a b c : Val} (h : Val.lt a b) (k : Val.le b c) : Val.lt a c := by unfold Val.le Val.lt at *; omega
theorem Val.lt_of_le_of_lt {a b c : Val} (h : Val.le a b) (k : Val.lt b c) : Val.lt a c := by unfold Val.le Val.lt at *; omega
theorem Val.le_of_lt {a b : Val} (h : Val.lt a b) : Val.le a b := by unfold Val.le Val.lt at *; omega
theorem Val.antisymm {a b : Val} (h : Val.le a b) (k : Val.le b a) : a = b := by
  unfold Val.le Val.lt at *; exact Val.ext' (by omega) (by omega) (by omega)
theorem Val.le_or_lt (a b : Val) : Val.le a b ∨ Val.lt b a := by unfold Val.le; exact (Decidable.em _).symm
theorem Val.lt_of_le_ne {a b : Val} (h : Val.le a b) (k : a ≠ b) : Val.lt a b := by
  rcases Val.le_or_lt b a with h' | h'
  · exact (k (Val.antisymm h h')).elim
  · exact h'
/-- A hop: whence, whither, what it costs, its label. -/
structure Hop where
  src : Nat
  dst : Nat
  w : Nat
  m : Nat
def Hop.on (e : Hop) (v : Val) : Val := ⟨v.r, v.c + e.w, e.m⟩
theorem Hop.on_mono (e : Hop) {a b : Val} (h : Val.le a b) : Val.le (e.on a) (e.on b) := by
  unfold Val.le Val.lt Hop.on at *; simp only at *; omega
/-- V is below whatever can be told. -/
structure Low (n : Nat) (own : Nat → Val) (E : List Hop) (V : Nat → Val) : Prop where
  own : ∀ i, i < n → Val.le (V i) (own i)
  hop : ∀ e ∈ E, Val.le (V e.dst) (e.on (V e.src))
/-- Each of V's values is told by somebody. -/
def Hit (n : Nat) (own : Nat → Val) (E : List Hop) (V : Nat → Val) : Prop := ∀ i, i < n → V i = own i ∨ ∃ e ∈ E, e.dst = i ∧ V i = e.on (V e.src)
/-- The hops lie within the net, and cost something. -/
def Fine (n : Nat) (E : List Hop) : Prop := ∀ e ∈ E, e.src < n ∧ e.dst < n ∧ 0 < e.w
section
variable {n : Nat} {own : Nat → Val} {E : List Hop}
theorem low_le_hit (hE : Fine n E) {V W : Nat → Val} (hW : Low n own E W) (hV : Hit n own E V) : ∀ i, i < n → Val.le (W i) (V i) := by
  have key : ∀ k, ∀ i, i < n → (V i).c = k → Val.le (W i) (V i) := by
    intro k
    induction k using Nat.strongRecOn with
    | ind k ih =>
      intro i hi hk
      rcases hV i hi with h | ⟨e, he, hd, h⟩
      · rw [h]; exact hW.own i hi
      · obtain ⟨hs, _, hw⟩ := hE e he
        have hc : (V e.src).c < k := by rw [← hk, h]; show _ < (V e.src).c + e.w; omega
        have := ih _ hc e.src hs rfl
        rw [h]
        exact Val.le_trans (hd ▸ hW.hop e he) (e.on_mono this)
  exact fun i hi => key _ i hi rfl
theorem fix_unique (hE : Fine n E) {V W : Nat → Val} (hV : Low n own E V) (hV' : Hit n own E V) (hW : Low n own E W) (hW' : Hit n own E W) : ∀ i, i < n → V i = W i :=
  fun i hi => Val.antisymm (low_le_hit hE hV hW' i hi) (low_le_hit hE hW hV' i hi)
/-- A round: each takes the best of what it has and what it hears. -/
def least (a : Val) : List Val → Val
  | [] => a
  | b :: r => least (if Val.lt b a then b else a) r
theorem least_le (l : List Val) : ∀ a, Val.le (least a l) a ∧ ∀ b ∈ l, Val.le (least a l) b := by
  induction l with
  | nil => exact fun a => ⟨Val.le_refl a, fun b h => by cases h⟩
  | cons c r ih =>
    intro a
    obtain ⟨h1, h2⟩ := ih (if Val.lt c a then c else a)
    have ha : Val.le (if Val.lt c a then c else a) a := by split; exact Val.le_of_lt (by assumption); exact Val.le_refl a
    have hc : Val.le (if Val.lt c a then c else a) c := by split; exact Val.le_refl c; exact (by assumption : ¬ Val.lt c a)
    refine ⟨Val.le_trans h1 ha, fun b hb => ?_⟩
    rcases List.mem_cons.1 hb with rfl | hb
    · exact Val.le_trans h1 hc
    · exact h2 b hb
theorem least_mem (l : List Val) : ∀ a, least a l = a ∨ least a l ∈ l := by
  induction l with
  | nil => exact fun a => .inl rfl
  | cons c r ih =>
    intro a
    rcases ih (if Val.lt c a then c else a) with h | h
    · by_cases hc : Val.lt c a
      · rw [if_pos hc] at h; right; show least (if Val.lt c a then c else a) r ∈ _; rw [if_pos hc, h]; exact List.mem_cons_self ..
      · rw [if_neg hc] at h; left; show least (if Val.lt c a then c else a) r = a; rw [if_neg hc, h]
    · right; exact List.mem_cons_of_mem _ h
/-- What is heard at a node. -/
def heardAt (E : List Hop) (V : Nat → Val) (i : Nat) : List Val := (E.filter (·.dst = i)).map fun e => e.on (V e.src)
def turnOn (E : List Hop) (V : Nat → Val) (i : Nat) : Val := least (V i) (heardAt E V i)
def rounds_ (own : Nat → Val) (E : List Hop) : Nat → Nat → Val
  | 0 => own
  | t + 1 => turnOn E (rounds_ own E t)
theorem mem_heardAt {V : Nat → Val} {i : Nat} {x : Val} : x ∈ heardAt E V i ↔ ∃ e ∈ E, e.dst = i ∧ x = e.on (V e.src) := by
  unfold heardAt
  simp only [List.mem_map, List.mem_filter, decide_eq_true_eq]
  constructor
  · rintro ⟨e, ⟨h1, h2⟩, rfl⟩; exact ⟨e, h1, h2, rfl⟩
  · rintro ⟨e, h1, h2, rfl⟩; exact ⟨e, ⟨h1, h2⟩, rfl⟩
theorem rounds_down (t i : Nat) : Val.le (rounds_ own E (t + 1) i) (rounds_ own E t i) := (least_le _ _).1
theorem rounds_mono {s t : Nat} (h : s ≤ t) (i : Nat) : Val.le (rounds_ own E t i) (rounds_ own E s i) := by
  induction t with
  | zero => have : s = 0 := by omega
            subst this; exact Val.le_refl _
  | succ t ih =>
    by_cases hs : s = t + 1
    · subst hs; exact Val.le_refl _
    · exact Val.le_trans (rounds_down t i) (ih (by omega))
theorem rounds_hop (t : Nat) {e : Hop} (he : e ∈ E) : Val.le (rounds_ own E (t + 1) e.dst) (e.on (rounds_ own E t e.src)) :=
  (least_le _ _).2 _ (mem_heardAt.2 ⟨e, he, rfl, rfl⟩)
theorem rounds_from (t i : Nat) : rounds_ own E (t + 1) i = rounds_ own E t i ∨ ∃ e ∈ E, e.dst = i ∧ rounds_ own E (t + 1) i = e.on (rounds_ own E t e.src) := by
  rcases least_mem (heardAt E (rounds_ own E t) i) (rounds_ own E t i) with h | h
  · exact .inl h
  · obtain ⟨e, he, hd, hx⟩ := mem_heardAt.1 h
    exact .inr ⟨e, he, hd, hx⟩
theorem nodup_le (n : Nat) : ∀ L : List Nat, L.Nodup → (∀ x ∈ L, x < n) → L.length ≤ n := by
  induction n with
  | zero =>
    intro L _ h
    cases L with
    | nil => simp
    | cons x r => exact absurd (h x (by simp)) (by omega)
  | succ n ih =>
    intro L hL h
    have h1 := ih (L.erase n) (hL.erase n) (fun x hx => by
      have := (List.Nodup.mem_erase_iff hL).1 hx
      have h2 := h x this.2
      have h3 := this.1
      omega)
    have h2 : L.length ≤ (L.erase n).length + 1 := by
      rw [List.length_erase]; split <;> omega
    omega
/-- Whoever changes in round t + 1 stands at the end of a chain of t + 2 nodes. -/
theorem chain (hE : Fine n E) : ∀ (t i : Nat), i < n → Val.lt (rounds_ own E (t + 1) i) (rounds_ own E t i) →
    ∃ L : List Nat, L.length = t + 2 ∧ L.Nodup ∧ (∀ x ∈ L, x < n) ∧ ∀ x ∈ L, ∃ u, u ≤ t + 1 ∧ (rounds_ own E u x).r = (rounds_ own E (t + 1) i).r ∧ (rounds_ own E u x).c ≤ (rounds_ own E (t + 1) i).c := by
  intro t
  induction t with
  | zero =>
    intro i hi h
    rcases rounds_from (own := own) (E := E) 0 i with h' | ⟨e, he, hd, hx⟩
    · rw [h'] at h; exact (Val.lt_irrefl _ h).elim
    · obtain ⟨hs, _, hw⟩ := hE e he
      rw [hx] at h ⊢
      refine ⟨[i, e.src], rfl, ?_, ?_, ?_⟩
      · simp only [List.nodup_cons, List.mem_singleton, List.not_mem_nil, not_false_eq_true, List.nodup_nil, and_true]
        intro hie
        rw [← hie] at h
        unfold Val.lt Hop.on at h; simp only at h; omega
      · intro x hx; simp only [List.mem_cons, List.not_mem_nil, or_false] at hx; rcases hx with rfl | rfl <;> assumption
      · intro x hx'; simp only [List.mem_cons, List.not_mem_nil, or_false] at hx'
        rcases hx' with rfl | rfl
        · exact ⟨1, by omega, by rw [hx], by rw [hx]; exact Nat.le_refl _⟩
        · exact ⟨0, by omega, rfl, by simp [Hop.on]⟩
  | succ t ih =>
    intro i hi h
    rcases rounds_from (own := own) (E := E) (t + 1) i with h' | ⟨e, he, hd, hx⟩
    · rw [h'] at h; exact (Val.lt_irrefl _ h).elim
    · obtain ⟨hs, _, hw⟩ := hE e he
      have hj : Val.lt (rounds_ own E (t + 1) e.src) (rounds_ own E t e.src) := by
        refine Val.lt_of_le_ne (rounds_down t _) (fun heq => ?_)
        have h3 := rounds_hop (own := own) t he
        rw [← heq, hd, ← hx] at h3
        exact h3 h
      obtain ⟨L, h1, h2, h3, h4⟩ := ih e.src hs hj
      refine ⟨i :: L, by simp [h1], ?_, ?_, ?_⟩
      · refine List.nodup_cons.2 ⟨fun hm => ?_, h2⟩
        obtain ⟨u, hu, hr, hc⟩ := h4 i hm
        have hmon := rounds_mono (own := own) (E := E) (show u ≤ t + 1 + 1 by omega) i
        rw [hx] at hmon
        unfold Val.le Val.lt Hop.on at hmon
        simp only at hmon
        omega
      · intro x hx'; rcases List.mem_cons.1 hx' with rfl | hx'
        · exact hi
        · exact h3 x hx'
      · intro x hx'
        rcases List.mem_cons.1 hx' with rfl | hx'
        · exact ⟨t + 1 + 1, by omega, rfl, Nat.le_refl _⟩
        · obtain ⟨u, hu, hr, hc⟩ := h4 x hx'
          refine ⟨u, by omega, ?_, ?_⟩
          · rw [hx, hr]; rfl
          · rw [hx]; show _ ≤ (rounds_ own E (t + 1) e.src).c + e.w; omega
theorem settles (hE : Fine n E) {t : Nat} (ht : n ≤ t + 1) (i : Nat) (hi : i < n) : rounds_ own E (t + 1) i = rounds_ own E t i := by
  refine Decidable.byContradiction fun hne => ?_
  obtain ⟨L, h1, h2, h3, _⟩ := chain hE t i hi (Val.lt_of_le_ne (rounds_down t i) hne)
  have := nodup_le n L h2 h3
  omega
/-- Each value was told once. -/
theorem rounds_told (t : Nat) : ∀ i, rounds_ own E t i = own i ∨ ∃ e ∈ E, e.dst = i ∧ ∃ s, s ≤ t ∧ rounds_ own E t i = e.on (rounds_ own E s e.src) := by
  induction t with
  | zero => exact fun i => .inl rfl
  | succ t ih =>
    intro i
    rcases rounds_from (own := own) (E := E) t i with h | ⟨e, he, hd, hx⟩
    · rw [h]
      rcases ih i with h' | ⟨e, he, hd, s, hs, hx⟩
      · exact .inl h'
      · exact .inr ⟨e, he, hd, s, by omega, hx⟩
    · exact .inr ⟨e, he, hd, t, by omega, hx⟩
theorem rounds_low (hE : Fine n E) {t : Nat} (ht : n ≤ t + 1) : Low n own E (rounds_ own E t) :=
  ⟨fun i _ => rounds_mono (Nat.zero_le t) i, fun e he => by
    have h := rounds_hop (own := own) t he
    rw [settles hE ht _ (hE e he).2.1] at h
    exact h⟩
theorem rounds_hit (hE : Fine n E) {t : Nat} (ht : n ≤ t + 1) : Hit n own E (rounds_ own E t) := by
  intro i hi
  rcases rounds_told (own := own) (E := E) t i with h | ⟨e, he, hd, s, hs, hx⟩
  · exact .inl h
  · refine .inr ⟨e, he, hd, Val.antisymm ?_ ?_⟩
    · have := (rounds_low (own := own) hE ht).hop e he
      rw [hd] at this; exact this
    · rw [hx]; exact e.on_mono (rounds_mono hs _)
/-- Whatever has been told lies above the least. -/
theorem above (_hE : Fine n E) {V : Nat → Val} (hV : Low n own E V) {x : Val} {e : Hop} (he : e ∈ E) (hx : Val.le (V e.src) x) : Val.le (V e.dst) (e.on x) :=
  Val.le_trans (hV.hop e he) (e.on_mono hx)
end
end Go.Proofs.YtkicbabfgahmkaaDoor

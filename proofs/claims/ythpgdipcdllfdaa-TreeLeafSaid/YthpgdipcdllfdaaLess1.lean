/- The net without its Alternate ports: its solution and its roles. No program in sight. -/
import Derived.Test.YthpgdipcdllfdaaEmb
import Derived.Test.YthpgdipcdllfdaaIs1
import Derived.Test.YthpgdipcdllfdaaTree19
namespace Go.Proofs.Ythpgdipcdllfdaa
section
variable {l : List Node} {V : List Vec}
/-- The ports of node i among the first k that pass. -/
def keepsTo (l : List Node) (V : List Vec) (i k : Nat) : List Nat := (List.range k).filter (passH l V i)
def keeps (l : List Node) (V : List Vec) (i : Nat) : List Nat := keepsTo l V i (nodeAt l i).ports.length
theorem keepsTo_succ (i k : Nat) : keepsTo l V i (k + 1) = if passH l V i k = true then keepsTo l V i k ++ [k] else keepsTo l V i k := by
  unfold keepsTo
  rw [List.range_succ, List.filter_append]
  cases h : passH l V i k <;> simp [h]
theorem keepsTo_lt {i k x : Nat} (h : x ∈ keepsTo l V i k) : x < k ∧ passH l V i x = true := by
  unfold keepsTo at h
  rw [List.mem_filter] at h
  exact ⟨by simpa using h.1, h.2⟩
theorem keepsTo_len (i k : Nat) : (keepsTo l V i k).length ≤ k := by
  have := List.length_filter_le (passH l V i) (List.range k)
  simpa [keepsTo] using this
theorem keepsTo_nodup (i k : Nat) : (keepsTo l V i k).Nodup := List.nodup_range.filter _
def lessN (l : List Node) (V : List Vec) (i : Nat) : Node := { nodeAt l i with ports := (keeps l V i).map (portAt (nodeAt l i)) }
def lessNet (l : List Node) (V : List Vec) : List Node := (List.range l.length).map (lessN l V)
theorem less_len : (lessNet l V).length = l.length := by simp [lessNet]
theorem less_at {i : Nat} (hi : i < l.length) : nodeAt (lessNet l V) i = lessN l V i := by
  rw [nodeAt_eq (by rw [less_len]; exact hi)]
  simp [lessNet]
theorem lessN_len {i : Nat} : (lessN l V i).ports.length = (keeps l V i).length := by simp [lessN]
theorem lessN_at {i k : Nat} (hk : k < (keeps l V i).length) : portAt (lessN l V i) k = portAt (nodeAt l i) ((keeps l V i).getD k 0) := by
  rw [portAt_eq (by rw [lessN_len]; exact hk)]
  unfold lessN
  simp only [List.getElem_map]
  rw [List.getD_eq_getElem?_getD, List.getElem?_eq_getElem hk]; rfl
theorem keeps_get {i k : Nat} (hk : k < (keeps l V i).length) : (keeps l V i).getD k 0 ∈ keeps l V i := getD_mem _ 0 hk
theorem less_emb (l : List Node) (V : List Vec) : Emb (lessNet l V) l (fun i => i) (fun i k => (keeps l V i).getD k 0) := by
  refine ⟨less_len, ?_, ?_, ?_, ?_, ?_, ?_⟩
  · intro i hi; rw [less_len] at hi; exact hi
  · intro i hi; rw [less_len] at hi; rw [less_at hi]; rfl
  · intro i k hi hk; rw [less_len] at hi; rw [less_at hi, lessN_len] at hk
    exact (keepsTo_lt (keeps_get hk)).1
  · intro i k hi hk; rw [less_len] at hi; rw [less_at hi, lessN_len] at hk
    rw [less_at hi, lessN_at hk]
  · intro i j _ _ e; exact e
  · intro i k q hi hk hq e
    rw [less_len] at hi; rw [less_at hi, lessN_len] at hk hq
    simp only [List.getD_eq_getElem?_getD, List.getElem?_eq_getElem hk, List.getElem?_eq_getElem hq, Option.getD_some] at e
    exact (List.getElem_inj (keepsTo_nodup i _)).1 e
theorem less_back {i k : Nat} (hi : i < l.length) (hk : k < (nodeAt l i).ports.length) (hp : passH l V i k = true) : ∃ k', k' < (nodeAt (lessNet l V) i).ports.length ∧ (keeps l V i).getD k' 0 = k := by
  have hm : k ∈ keeps l V i := by
    unfold keeps keepsTo
    rw [List.mem_filter]
    exact ⟨by simpa using hk, hp⟩
  obtain ⟨k', hk', e⟩ := List.getElem_of_mem hm
  refine ⟨k', by rw [less_at hi, lessN_len]; exact hk', ?_⟩
  rw [List.getD_eq_getElem?_getD, List.getElem?_eq_getElem hk', e]; rfl
theorem less_valid (hv : validNet l = true) : validNet (lessNet l V) = true := by
  have hv' := hv
  unfold validNet at hv'
  simp only [Bool.and_eq_true, decide_eq_true_eq] at hv'
  unfold validNet
  rw [Bool.and_eq_true, Bool.and_eq_true, decide_eq_true_eq, List.all_eq_true]
  refine ⟨⟨by rw [less_len]; exact hv'.1.1, fun N hN => ?_⟩, distinctB_of _ fun j k hk hj e => ?_⟩
  · obtain ⟨i, hi, rfl⟩ := List.getElem_of_mem hN
    rw [less_len] at hi
    rw [← nodeAt_eq (by rw [less_len]; exact hi), less_at hi]
    have hr := valid_node hv hi
    unfold rightN at hr ⊢
    simp only [Bool.and_eq_true, decide_eq_true_eq, List.all_eq_true] at hr ⊢
    have hkl : (keeps l V i).length ≤ (nodeAt l i).ports.length := keepsTo_len _ _
    refine ⟨⟨⟨by rw [lessN_len]; omega, hr.1.1.2⟩, fun m hm => ?_⟩, distinctP_of _ fun j k hk hj e => ?_⟩
    · obtain ⟨k, hk, rfl⟩ := List.getElem_of_mem hm
      rw [lessN_len] at hk
      rw [← portAt_eq (by rw [lessN_len]; exact hk), lessN_at hk]
      exact hr.1.2 _ (getD_mem _ _ (keepsTo_lt (keeps_get hk)).1)
    · rw [lessN_len] at hk
      rw [← portAt_eq (by rw [lessN_len]; omega), ← portAt_eq (by rw [lessN_len]; omega), lessN_at (by omega), lessN_at (by omega)] at e
      have h1 : j < (keeps l V i).length := by omega
      have := port_inj hv hi (keepsTo_lt (keeps_get h1)).1 (keepsTo_lt (keeps_get hk)).1 e
      simp only [List.getD_eq_getElem?_getD, List.getElem?_eq_getElem h1, List.getElem?_eq_getElem hk, Option.getD_some] at this
      have := (List.getElem_inj (keepsTo_nodup i _)).1 this
      omega
  · rw [less_len] at hk
    rw [← nodeAt_eq (by rw [less_len]; omega), ← nodeAt_eq (by rw [less_len]; omega), less_at (by omega), less_at (by omega)] at e
    have := br_inj hv (by omega) (by omega) e
    omega
section
variable (hv : validNet l = true) (h : Sol l V)
include hv h
omit h in
/-- Of what is told on a LAN the Designated port tells the best. -/
theorem des_tells {i k : Nat} (hi : i < l.length) (hk : k < (nodeAt l i).ports.length) : ∃ j m, j < l.length ∧ m < (nodeAt l j).ports.length ∧ (memAt l j m).lan = (memAt l i k).lan ∧ bestAt l V j m = true ∧
    ∀ j' m', j' < l.length → m' < (nodeAt l j').ports.length → (memAt l j' m').lan = (memAt l i k).lan → better (tellAt l V j' m') (tellAt l V j m) = false := by
  obtain ⟨j, m, hj, hm, hlan, hb⟩ := lan_designated (V := V) hv hi hk
  refine ⟨j, m, hj, hm, hlan, hb, fun j' m' hj' hm' hlan' => ?_⟩
  by_cases e : j' = j ∧ m' = m
  · obtain ⟨rfl, rfl⟩ := e; exact better_irrefl _
  · exact best_iff.1 hb j' m' hj' hm' (onLan_of j m j' m' (hlan'.trans hlan.symm) e)
omit hv h in
/-- What is better told is better heard. -/
theorem heard_of_tell {i k j m j' m' : Nat} (hb : better (tellAt l V j m) (tellAt l V j' m') = true) : better (heardOf l (vecAt V j) i k j m) (heardOf l (vecAt V j') i k j' m') = true := by
  rw [better_parts] at hb ⊢
  have e1 := lexI_append (a := (tellAt l V j m).sender.key ++ (tellAt l V j m).port.key) (a' := (tellAt l V j' m').sender.key ++ (tellAt l V j' m').port.key) (Pt.key ⟨0, 0⟩) (Pt.key ⟨0, 0⟩) rfl
  have e2 := lexI_append (a := (tellAt l V j m).sender.key ++ (tellAt l V j m).port.key) (a' := (tellAt l V j' m').sender.key ++ (tellAt l V j' m').port.key) ((portAt (nodeAt l i) k).port.key) ((portAt (nodeAt l i) k).port.key) rfl
  rw [lexI_refl] at e1 e2
  have l1 : (tellAt l V j m).label = ((tellAt l V j m).sender.key ++ (tellAt l V j m).port.key) ++ Pt.key ⟨0, 0⟩ := by
    rw [List.append_assoc]; rfl
  have l2 : (tellAt l V j' m').label = ((tellAt l V j' m').sender.key ++ (tellAt l V j' m').port.key) ++ Pt.key ⟨0, 0⟩ := by
    rw [List.append_assoc]; rfl
  have l3 : (heardOf l (vecAt V j) i k j m).label = ((tellAt l V j m).sender.key ++ (tellAt l V j m).port.key) ++ (portAt (nodeAt l i) k).port.key := by
    rw [List.append_assoc]; rfl
  have l4 : (heardOf l (vecAt V j') i k j' m').label = ((tellAt l V j' m').sender.key ++ (tellAt l V j' m').port.key) ++ (portAt (nodeAt l i) k).port.key := by
    rw [List.append_assoc]; rfl
  rw [l1, l2, e1] at hb
  rw [l3, l4, e2]
  have r1 : (heardOf l (vecAt V j) i k j m).root = (tellAt l V j m).root := rfl
  have r2 : (heardOf l (vecAt V j') i k j' m').root = (tellAt l V j' m').root := rfl
  have c1 : (heardOf l (vecAt V j) i k j m).cost = (tellAt l V j m).cost + (memAt l i k).cost := rfl
  have c2 : (heardOf l (vecAt V j') i k j' m').cost = (tellAt l V j' m').cost + (memAt l i k).cost := rfl
  rw [r1, r2, c1, c2]
  have c3 : decide ((tellAt l V j m).cost + (memAt l i k).cost < (tellAt l V j' m').cost + (memAt l i k).cost) = decide ((tellAt l V j m).cost < (tellAt l V j' m').cost) := by
    rw [Bool.eq_iff_iff]; simp only [decide_eq_true_eq]; omega
  have c4 : decide ((tellAt l V j m).cost + (memAt l i k).cost = (tellAt l V j' m').cost + (memAt l i k).cost) = decide ((tellAt l V j m).cost = (tellAt l V j' m').cost) := by
    rw [Bool.eq_iff_iff]; simp only [decide_eq_true_eq]; omega
  rw [c3, c4]
  exact hb
/-- A vector that is heard is heard from a Designated port, by a RootPort. -/
theorem hit_passes {i : Nat} (hi : i < l.length) : vecAt V i = ownM (nodeAt l i) ∨ ∃ k j m, k < (nodeAt l i).ports.length ∧ j < l.length ∧ m < (nodeAt l j).ports.length ∧ passH l V i k = true ∧ passH l V j m = true ∧ onLan l i k j m = true ∧ vecAt V i = heardOf l (vecAt V j) i k j m := by
  rcases sol_hit' hv h hi with e | ⟨k, j, m, hk, hj, hm, ho, hne, e⟩
  · exact .inl e
  · by_cases hr : (vecAt V i).root = brAt l i
    · exact .inl (root_own hv h hi hr)
    · right
      have hb := root_not_best hv h hi hk hj hm ho e
      have hat : (vecAt V i).at_ = (memAt l i k).port := by rw [e]; rfl
      have h2 : roleAt l V i k = 2 := role_two.2 ⟨hb, hr, hat⟩
      obtain ⟨j', m', hj', hm', hlan', hb', hmin⟩ := des_tells (V := V) hv hi hk
      have hlan := (onLan_lan ho).1
      have hne' : ¬ (j' = i ∧ m' = k) := fun ⟨a, b⟩ => by rw [a, b, hb] at hb'; cases hb'
      have ho' := onLan_of i k j' m' hlan' hne'
      refine ⟨k, j', m', hk, hj', hm', by rw [pass_or]; simp [h2], by rw [pass_or]; simp [hb'], ho', ?_⟩
      have h3 := hmin j m hj hm hlan
      have h4 : better (tellAt l V j' m') (tellAt l V j m) = false := by
        cases hc : better (tellAt l V j' m') (tellAt l V j m)
        · rfl
        · have h5 := heard_of_tell (l := l) (V := V) (i := i) (k := k) hc
          rw [← e] at h5
          have h6 := h.hear i k j' m' hi hk hj' hm' ho'
          have h7 : better (heardOf l (vecAt V j') i k j' m') (vecAt V i) = false := h6
          rw [h5] at h7; cases h7
      have h8 := better_total h4 h3
      obtain ⟨rfl, rfl⟩ := tell_inj hv hj' hm' hj hm h8
      exact e
theorem less_sol : Sol (lessNet l V) V := by
  refine emb_sol (less_emb l V) h (by rw [h.len, less_len]) (fun i _ => rfl) (fun i hi => ?_)
  rw [less_len] at hi
  rcases hit_passes hv h hi with e | ⟨k, j, m, hk, hj, hm, hp, hq, ho, e⟩
  · exact .inl e
  · obtain ⟨k', hk', rfl⟩ := less_back hi hk hp
    obtain ⟨m', hm', rfl⟩ := less_back hj hm hq
    exact .inr ⟨k', j, m', hk', by rw [less_len]; exact hj, hm', ho, e⟩
theorem less_solve : solveM (lessNet l V) = V := sol_unique (less_valid hv) (sol_solve (less_valid hv)) (less_sol hv h)
theorem less_role {i k : Nat} (hi : i < l.length) (hk : k < (nodeAt (lessNet l V) i).ports.length) : roleAt (lessNet l V) (solveM (lessNet l V)) i k = roleAt l V i ((keeps l V i).getD k 0) := by
  rw [less_solve hv h]
  have hi' : i < (lessNet l V).length := by rw [less_len]; exact hi
  refine emb_role (less_emb l V) (fun _ _ => rfl) hi' hk (emb_best (less_emb l V) (fun _ _ => rfl) hi' hk (fun j q hj hq ho hb => ?_))
  have hk2 : (keeps l V i).getD k 0 < (nodeAt l i).ports.length := (less_emb l V).port i k hi' hk
  obtain ⟨j', m', hj', hm', hlan', hb', hmin⟩ := des_tells (V := V) hv hi hk2
  have h3 := hmin j q hj hq (onLan_lan ho).1
  have hbb : better (tellAt l V j' m') (tellAt l V i ((keeps l V i).getD k 0)) = true := by
    cases h4 : better (tellAt l V j' m') (tellAt l V j q)
    · have := better_total h4 h3
      rw [this]; exact hb
    · exact better_trans h4 hb
  have hne' : ¬ (j' = i ∧ m' = (keeps l V i).getD k 0) := fun ⟨a, b⟩ => by
    rw [a, b, better_irrefl] at hbb; cases hbb
  obtain ⟨m2, hm2, e⟩ := less_back (V := V) hj' hm' (by rw [pass_or]; simp [hb'])
  exact ⟨j', m2, by rw [less_len]; exact hj', hm2, by
    show onLan l i ((keeps l V i).getD k 0) j' ((keeps l V j').getD m2 0) = true
    rw [e]; exact onLan_of _ _ _ _ hlan' hne', by
    show better (tellAt l V j' ((keeps l V j').getD m2 0)) _ = true
    rw [e]; exact hbb⟩
end
end
end Go.Proofs.Ythpgdipcdllfdaa

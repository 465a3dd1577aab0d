/- The net told the other way round: its solution and its roles. No program in sight. -/
import Derived.Test.YthpgdipcdllfdaaEmb
import Derived.Test.YthpgdipcdllfdaaTree19
namespace Go.Proofs.Ythpgdipcdllfdaa
def revN (n : Node) : Node := { n with ports := n.ports.reverse }
def revNet (l : List Node) : List Node := (l.map revN).reverse
section
variable {l : List Node}
theorem revNet_len : (revNet l).length = l.length := by simp [revNet]
theorem revNet_at {i : Nat} (hi : i < l.length) : nodeAt (revNet l) i = revN (nodeAt l (l.length - 1 - i)) := by
  rw [nodeAt_eq (by rw [revNet_len]; exact hi), nodeAt_eq (by omega)]
  unfold revNet
  rw [List.getElem_reverse, List.getElem_map]
  simp
theorem revN_len (n : Node) : (revN n).ports.length = n.ports.length := by simp [revN]
theorem revN_at {n : Node} {k : Nat} (hk : k < n.ports.length) : portAt (revN n) k = portAt n (n.ports.length - 1 - k) := by
  rw [portAt_eq (by rw [revN_len]; exact hk), portAt_eq (by omega)]
  unfold revN
  simp only [List.getElem_reverse]
theorem revNet_ports {i : Nat} (hi : i < l.length) : (nodeAt (revNet l) i).ports.length = (nodeAt l (l.length - 1 - i)).ports.length := by rw [revNet_at hi, revN_len]
theorem rev_emb (l : List Node) : Emb (revNet l) l (fun i => l.length - 1 - i) (fun i k => (nodeAt l (l.length - 1 - i)).ports.length - 1 - k) := by
  refine ⟨revNet_len, ?_, ?_, ?_, ?_, ?_, ?_⟩
  · intro i hi; rw [revNet_len] at hi; show l.length - 1 - i < l.length; omega
  · intro i hi; rw [revNet_len] at hi; rw [revNet_at hi]; rfl
  · intro i k hi hk; rw [revNet_len] at hi; rw [revNet_ports hi] at hk
    show (nodeAt l (l.length - 1 - i)).ports.length - 1 - k < (nodeAt l (l.length - 1 - i)).ports.length; omega
  · intro i k hi hk; rw [revNet_len] at hi; rw [revNet_ports hi] at hk
    rw [revNet_at hi, revN_at hk]
  · intro i j hi hj; rw [revNet_len] at hi hj; intro e; omega
  · intro i k q hi hk hq; rw [revNet_len] at hi; rw [revNet_ports hi] at hk hq; intro e; omega
theorem rev_valid (hv : validNet l = true) : validNet (revNet l) = true := by
  have hv' := hv
  unfold validNet at hv'
  simp only [Bool.and_eq_true, decide_eq_true_eq] at hv'
  have hB : ∀ i j, i < l.length → j < l.length → (nodeAt l i).br = (nodeAt l j).br → i = j := fun i j hi hj e => br_inj hv hi hj e
  unfold validNet
  rw [Bool.and_eq_true, Bool.and_eq_true, decide_eq_true_eq, List.all_eq_true]
  refine ⟨⟨by rw [revNet_len]; exact hv'.1.1, fun N hN => ?_⟩, distinctB_of _ fun j k hk hj e => ?_⟩
  · obtain ⟨i, hi, rfl⟩ := List.getElem_of_mem hN
    rw [revNet_len] at hi
    rw [← nodeAt_eq (by rw [revNet_len]; exact hi), revNet_at hi]
    have hx : l.length - 1 - i < l.length := by omega
    have hr := valid_node hv hx
    have hp : ∀ a b, a < (nodeAt l (l.length - 1 - i)).ports.length → b < (nodeAt l (l.length - 1 - i)).ports.length → (memAt l (l.length - 1 - i) a).port = (memAt l (l.length - 1 - i) b).port → a = b := fun a b ha hb e => port_inj hv hx ha hb e
    unfold memAt at hp
    generalize nodeAt l (l.length - 1 - i) = n at *
    unfold rightN at hr ⊢
    simp only [Bool.and_eq_true, decide_eq_true_eq, List.all_eq_true] at hr ⊢
    refine ⟨⟨⟨by rw [revN_len]; exact hr.1.1.1, hr.1.1.2⟩, fun m hm => hr.1.2 m (by simpa [revN] using hm)⟩, distinctP_of _ fun j k hk hj e => ?_⟩
    have hk' : k < n.ports.length := by rw [← revN_len]; exact hk
    rw [← portAt_eq (by rw [revN_len]; omega), ← portAt_eq (by rw [revN_len]; omega), revN_at (by omega), revN_at (by omega)] at e
    have := hp _ _ (by omega) (by omega) e
    omega
  · rw [revNet_len] at hk
    rw [← nodeAt_eq (by rw [revNet_len]; omega), ← nodeAt_eq (by rw [revNet_len]; omega), revNet_at (by omega), revNet_at (by omega)] at e
    have := hB _ _ (by omega) (by omega) e
    omega
theorem rev_back {i k : Nat} (hi : i < l.length) (hk : k < (nodeAt l i).ports.length) : ∃ i' k', i' < (revNet l).length ∧ k' < (nodeAt (revNet l) i').ports.length ∧ l.length - 1 - i' = i ∧ (nodeAt l (l.length - 1 - i')).ports.length - 1 - k' = k := by
  have e : l.length - 1 - (l.length - 1 - i) = i := by omega
  refine ⟨l.length - 1 - i, (nodeAt l i).ports.length - 1 - k, by rw [revNet_len]; omega, ?_, e, ?_⟩
  · rw [revNet_ports (by omega), e]; omega
  · rw [e]; omega
theorem rev_solve (hv : validNet l = true) {i : Nat} (hi : i < l.length) : (solveM (revNet l)).getD i default = (solveM l).getD (l.length - 1 - i) default := by
  have hs := sol_solve hv
  have hWV : ∀ i, i < (revNet l).length → ((solveM l).reverse).getD i default = (solveM l).getD (l.length - 1 - i) default := fun i hi => by
    rw [revNet_len] at hi
    rw [List.getD_eq_getElem?_getD, List.getElem?_reverse (by rw [hs.len]; exact hi), hs.len, List.getD_eq_getElem?_getD]
  have hW : ((solveM l).reverse).length = (revNet l).length := by rw [List.length_reverse, hs.len, revNet_len]
  have := sol_unique (rev_valid hv) (sol_solve (rev_valid hv)) (emb_sol (rev_emb l) hs hW hWV (fun i hi => by
    rw [revNet_len] at hi
    rcases hs.hit (l.length - 1 - i) (by omega) with e | ⟨k, j, m, hk, hj, hm, ho, e⟩
    · exact .inl e
    · have hk2 : (nodeAt l (l.length - 1 - i)).ports.length - 1 - ((nodeAt l (l.length - 1 - i)).ports.length - 1 - k) = k := by omega
      obtain ⟨j', m', hj', hm', rfl, rfl⟩ := rev_back hj hm
      exact .inr ⟨(nodeAt l (l.length - 1 - i)).ports.length - 1 - k, j', m', by rw [revNet_ports hi]; omega, hj', hm', by rw [hk2]; exact ho, by rw [hk2]; exact e⟩))
  rw [this]
  exact hWV i (by rw [revNet_len]; exact hi)
theorem rev_role (hv : validNet l = true) {i k : Nat} (hi : i < l.length) (hk : k < (nodeAt l i).ports.length) : roleAt (revNet l) (solveM (revNet l)) (l.length - 1 - i) ((nodeAt l i).ports.length - 1 - k) = roleAt l (solveM l) i k := by
  have hWV : ∀ i, i < (revNet l).length → (solveM (revNet l)).getD i default = (solveM l).getD (l.length - 1 - i) default := fun i hi => rev_solve hv (by rw [revNet_len] at hi; exact hi)
  have e : l.length - 1 - (l.length - 1 - i) = i := by omega
  have hi' : l.length - 1 - i < (revNet l).length := by rw [revNet_len]; omega
  have hk' : (nodeAt l i).ports.length - 1 - k < (nodeAt (revNet l) (l.length - 1 - i)).ports.length := by rw [revNet_ports (by omega), e]; omega
  have e2 : (nodeAt l i).ports.length - 1 - ((nodeAt l i).ports.length - 1 - k) = k := by omega
  have h := emb_role (rev_emb l) hWV hi' hk' (emb_best (rev_emb l) hWV hi' hk' (fun j q hj hq ho hb => by
    obtain ⟨j', q', hj', hq', rfl, rfl⟩ := rev_back hj hq
    exact ⟨j', q', hj', hq', ho, hb⟩))
  rw [h]
  simp only [e, e2]
end
end Go.Proofs.Ythpgdipcdllfdaa

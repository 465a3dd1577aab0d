/- A net and one node more, the worst of all, with one port: its solution and its roles. No program in sight. -/
import Derived.Test.YthpgdipcdllfdaaIs1
import Derived.Test.YthpgdipcdllfdaaLess1
namespace Go.Proofs.Ythpgdipcdllfdaa
def leafB : Br := ⟨61440, 4095, ⟨255, 255, 255, 255, 255, 255⟩⟩
def leafM (lan c : Int) : Mem := ⟨⟨0, 1⟩, c, lan⟩
def leafN (lan c : Int) : Node := ⟨leafB, [leafM lan c]⟩
theorem lexI_ge {a b : Int} {r s : List Int} (h : b ≤ a) (k : 0 ≤ lexI r s) : 0 ≤ lexI (a :: r) (b :: s) := by
  have e : lexI (a :: r) (b :: s) = if a < b then -1 else if b < a then 1 else lexI r s := rfl
  rw [e, if_neg (by omega)]
  split <;> omega
theorem leaf_worst {b : Br} (h : rightB b = true) : lessB leafB b = false := by
  unfold rightB at h
  simp only [Bool.and_eq_true, decide_eq_true_eq] at h
  unfold lessB
  rw [decide_eq_false_iff_not]
  have u : ∀ x : UInt8, (x.toNat : Int) ≤ ((255 : UInt8).toNat : Int) := fun x => by
    have := x.toNat_lt
    show (x.toNat : Int) ≤ 255
    omega
  have : 0 ≤ lexI leafB.key b.key := by
    unfold Br.key
    refine lexI_ge h.1.1.1.2 (lexI_ge h.2 (lexI_ge (u _) (lexI_ge (u _) (lexI_ge (u _) (lexI_ge (u _) (lexI_ge (u _) (lexI_ge (u _) ?_)))))))
    exact Int.le_refl 0
  omega
section
variable {l : List Node} {V : List Vec} {lan c : Int}
def leafNet (l : List Node) (lan c : Int) : List Node := l ++ [leafN lan c]
def nearTo (l : List Node) (lan : Int) (i k : Nat) : Bool := (portsTo l i k).any (onL l lan)
theorem leaf_len : (leafNet l lan c).length = l.length + 1 := by simp [leafNet]
theorem leaf_lt {i : Nat} (hi : i < l.length) : nodeAt (leafNet l lan c) i = nodeAt l i := by
  unfold nodeAt leafNet
  simp only [List.getD_eq_getElem?_getD]
  rw [List.getElem?_append_left hi]
theorem leaf_end : nodeAt (leafNet l lan c) l.length = leafN lan c := by
  unfold nodeAt leafNet
  simp [List.getD_eq_getElem?_getD]
theorem leaf_onLan {i k j q : Nat} (hi : i < l.length) (hj : j < l.length) : onLan (leafNet l lan c) i k j q = onLan l i k j q := by
  unfold onLan
  rw [leaf_lt hi, leaf_lt hj]
theorem leaf_heard {v : Vec} {i k j q : Nat} (hi : i < l.length) (hj : j < l.length) : heardOf (leafNet l lan c) v i k j q = heardOf l v i k j q := by
  unfold heardOf
  rw [leaf_lt hi, leaf_lt hj]
theorem leaf_vec {x : Vec} (hV : V.length = l.length) {i : Nat} (hi : i < l.length) : (V ++ [x]).getD i default = V.getD i default := by
  simp only [List.getD_eq_getElem?_getD]
  rw [List.getElem?_append_left (by omega)]
theorem leaf_vecE {x : Vec} (hV : V.length = l.length) : (V ++ [x]).getD l.length default = x := by
  simp [List.getD_eq_getElem?_getD, ← hV]
theorem leaf_tell {x : Vec} (hV : V.length = l.length) {j q : Nat} (hj : j < l.length) : tellAt (leafNet l lan c) (V ++ [x]) j q = tellAt l V j q := by
  unfold tellAt vecAt
  rw [leaf_lt hj, leaf_vec hV hj]
theorem leaf_mem {k : Nat} (hk : k < (nodeAt (leafNet l lan c) l.length).ports.length) : k = 0 := by
  rw [leaf_end] at hk
  unfold leafN at hk
  simpa using hk
theorem leaf_lan {i k : Nat} (hi : i < l.length) : onLan (leafNet l lan c) i k l.length 0 = decide ((memAt l i k).lan = lan) := by
  unfold onLan
  rw [leaf_lt hi, leaf_end]
  have h1 : ¬ l.length = i := by omega
  have e : (portAt (leafN lan c) 0).lan = lan := rfl
  rw [e]
  simp only [h1, decide_false, Bool.false_and, Bool.not_false, Bool.and_true]
  unfold memAt
  rw [Bool.eq_iff_iff]; simp only [decide_eq_true_eq]; exact eq_comm
theorem leaf_lan' {j q : Nat} (hj : j < l.length) : onLan (leafNet l lan c) l.length 0 j q = decide ((memAt l j q).lan = lan) := by
  unfold onLan
  rw [leaf_lt hj, leaf_end]
  have h1 : ¬ j = l.length := by omega
  have e : (portAt (leafN lan c) 0).lan = lan := rfl
  rw [e]
  simp only [h1, decide_false, Bool.false_and, Bool.not_false, Bool.and_true]
  rfl
theorem leaf_self : onLan (leafNet l lan c) l.length 0 l.length 0 = false := by unfold onLan; simp
theorem near_iff : nearTo l lan l.length 0 = true ↔ ∃ i k, i < l.length ∧ k < (nodeAt l i).ports.length ∧ (memAt l i k).lan = lan := by
  unfold nearTo
  rw [List.any_eq_true]
  constructor
  · rintro ⟨p, hp, h⟩
    rw [mem_ports_all] at hp
    unfold onL at h
    exact ⟨p.1, p.2, hp.1, hp.2, of_decide_eq_true h⟩
  · rintro ⟨i, k, hi, hk, h⟩
    exact ⟨(i, k), mem_ports_all.2 ⟨hi, hk⟩, by unfold onL; simpa using h⟩
theorem nearTo_succ {i k : Nat} : nearTo l lan i (k + 1) = (nearTo l lan i k || decide ((memAt l i k).lan = lan)) := by
  unfold nearTo
  rw [portsTo_succ, List.any_append]
  simp [onL]
theorem nearTo_next {i : Nat} : nearTo l lan (i + 1) 0 = nearTo l lan i (nodeAt l i).ports.length := by
  unfold nearTo; rw [portsTo_next]
theorem nearTo_zero : nearTo l lan 0 0 = false := rfl
/-- What the last node makes of things, and that nobody else minds. -/
structure Leaf (l : List Node) (V : List Vec) (lan c : Int) (x : Vec) : Prop where
  sol : Sol (leafNet l lan c) (V ++ [x])
  role : ∀ i k, i < l.length → k < (nodeAt l i).ports.length → roleAt (leafNet l lan c) (V ++ [x]) i k = roleAt l V i k
  near : nearTo l lan l.length 0 = true → x.root ≠ leafB ∧ roleAt (leafNet l lan c) (V ++ [x]) l.length 0 = 2
  far : nearTo l lan l.length 0 = false → x.root = leafB ∧ roleAt (leafNet l lan c) (V ++ [x]) l.length 0 = 1
theorem leaf_role {x : Vec} (hV : V.length = l.length) {i k : Nat} (hi : i < l.length) (hb : bestAt (leafNet l lan c) (V ++ [x]) i k = bestAt l V i k) : roleAt (leafNet l lan c) (V ++ [x]) i k = roleAt l V i k := by
  unfold roleAt vecAt
  rw [hb, leaf_lt hi, leaf_vec hV hi]
section
variable (hv : validNet l = true) (hv' : validNet (leafNet l lan c) = true) (h : Sol l V)
include hv hv' h
omit hv in
theorem leaf_far (hn : nearTo l lan l.length 0 = false) : Leaf l V lan c (ownM (leafN lan c)) := by
  have hno : ∀ i k, i < l.length → k < (nodeAt l i).ports.length → (memAt l i k).lan ≠ lan := fun i k hi hk e => by
    rw [near_iff.2 ⟨i, k, hi, hk, e⟩] at hn; cases hn
  have hV := h.len
  refine ⟨⟨by rw [List.length_append, hV, leaf_len]; rfl, ?_, ?_, ?_, ?_⟩, ?_, ?_, ?_⟩
  · intro i hi
    rw [leaf_len] at hi
    by_cases e : i < l.length
    · rw [leaf_vec hV e]; exact h.ok i e
    · obtain rfl : i = l.length := by omega
      rw [leaf_vecE hV]
      have := valid_br hv' (i := l.length) (by rw [leaf_len]; omega)
      rw [leaf_end] at this
      exact ok_own this
  · intro i hi
    rw [leaf_len] at hi
    by_cases e : i < l.length
    · rw [leaf_vec hV e, leaf_lt e]; exact h.own i e
    · obtain rfl : i = l.length := by omega
      rw [leaf_vecE hV, leaf_end]; exact better_irrefl _
  · intro i k j q hi hk hj hq ho
    rw [leaf_len] at hi hj
    by_cases ei : i < l.length
    · by_cases ej : j < l.length
      · rw [leaf_lt ei] at hk
        rw [leaf_lt ej] at hq
        rw [leaf_onLan ei ej] at ho
        rw [leaf_vec hV ei, leaf_vec hV ej, leaf_heard ei ej]
        exact h.hear i k j q ei hk ej hq ho
      · obtain rfl : j = l.length := by omega
        obtain rfl := leaf_mem hq
        rw [leaf_lt ei] at hk
        rw [leaf_lan ei, decide_eq_true_eq] at ho
        exact (hno i k ei hk ho).elim
    · obtain rfl : i = l.length := by omega
      obtain rfl := leaf_mem hk
      by_cases ej : j < l.length
      · rw [leaf_lt ej] at hq
        rw [leaf_lan' ej, decide_eq_true_eq] at ho
        exact (hno j q ej hq ho).elim
      · obtain rfl : j = l.length := by omega
        obtain rfl := leaf_mem hq
        rw [leaf_self] at ho; cases ho
  · intro i hi
    rw [leaf_len] at hi
    by_cases e : i < l.length
    · rw [leaf_vec hV e, leaf_lt e]
      rcases h.hit i e with e1 | ⟨k, j, q, hk, hj, hq, ho, e1⟩
      · exact .inl e1
      · exact .inr ⟨k, j, q, hk, by rw [leaf_len]; omega, by rw [leaf_lt hj]; exact hq, by rw [leaf_onLan e hj]; exact ho, by rw [leaf_vec hV hj, leaf_heard e hj]; exact e1⟩
    · obtain rfl : i = l.length := by omega
      rw [leaf_vecE hV, leaf_end]; exact .inl rfl
  · intro i k hi hk
    refine leaf_role hV hi ?_
    rw [Bool.eq_iff_iff, best_iff, best_iff]
    constructor
    · intro hb j q hj hq ho
      have := hb j q (by rw [leaf_len]; omega) (by rw [leaf_lt hj]; exact hq) (by rw [leaf_onLan hi hj]; exact ho)
      rw [leaf_tell hV hj, leaf_tell hV hi] at this
      exact this
    · intro hb j q hj hq ho
      rw [leaf_len] at hj
      by_cases ej : j < l.length
      · rw [leaf_lt ej] at hq
        rw [leaf_onLan hi ej] at ho
        rw [leaf_tell hV ej, leaf_tell hV hi]
        exact hb j q ej hq ho
      · obtain rfl : j = l.length := by omega
        obtain rfl := leaf_mem hq
        rw [leaf_lan hi, decide_eq_true_eq] at ho
        exact (hno i k hi hk ho).elim
  · intro hy; rw [hn] at hy; cases hy
  · intro _
    refine ⟨rfl, role_one.2 (best_iff.2 fun j q hj hq ho => ?_)⟩
    rw [leaf_len] at hj
    by_cases ej : j < l.length
    · rw [leaf_lt ej] at hq
      rw [leaf_lan' ej, decide_eq_true_eq] at ho
      exact (hno j q ej hq ho).elim
    · obtain rfl : j = l.length := by omega
      obtain rfl := leaf_mem hq
      rw [leaf_self] at ho; cases ho
theorem leaf_near (hn : nearTo l lan l.length 0 = true) : ∃ x, Leaf l V lan c x := by
  obtain ⟨i0, k0, hi0, hk0, e0⟩ := near_iff.1 hn
  obtain ⟨j, m, hj, hm, hlan, hb, hmin⟩ := des_tells (V := V) hv hi0 hk0
  rw [e0] at hlan hmin
  have hV := h.len
  have hL : l.length < (leafNet l lan c).length := by rw [leaf_len]; omega
  have hjL : j < (leafNet l lan c).length := by rw [leaf_len]; omega
  have hmL : m < (nodeAt (leafNet l lan c) j).ports.length := by rw [leaf_lt hj]; exact hm
  have h0L : 0 < (nodeAt (leafNet l lan c) l.length).ports.length := by rw [leaf_end]; exact Nat.zero_lt_one
  have hcp := (cost_pos hv' hL h0L).1
  have hce : (memAt (leafNet l lan c) l.length 0).cost = c := by unfold memAt; rw [leaf_end]; rfl
  rw [hce] at hcp
  obtain ⟨x, hx⟩ : ∃ x, x = heardOf (leafNet l lan c) (V.getD j default) l.length 0 j m := ⟨_, rfl⟩
  have xr : x.root = (vecAt V j).root := by rw [hx]; rfl
  have xc : x.cost = (vecAt V j).cost + c := by rw [hx, heard_cost, hce]; rfl
  have xa : x.at_ = ⟨0, 1⟩ := by
    rw [hx]
    unfold heardOf hearsM
    simp only
    rw [leaf_end]; rfl
  obtain ⟨t, ht, hbt, _⟩ := to_root hv h _ j hj (Nat.le_refl _)
  have hne : x.root ≠ leafB := by
    rw [xr, ← hbt]
    intro e
    have : t = l.length := br_inj hv' (by rw [leaf_len]; omega) hL (by rw [leaf_lt ht, leaf_end]; exact e)
    omega
  have hworst : lessB leafB x.root = false := by
    rw [xr, ← hbt]; exact leaf_worst (valid_br hv ht)
  have hself : ∀ q, q < (nodeAt (leafNet l lan c) l.length).ports.length → q = 0 := fun q hq => leaf_mem hq
  have hcost : ∀ i k, i < l.length → k < (nodeAt l i).ports.length → (memAt l i k).lan = lan → (vecAt V i).root = (vecAt V j).root ∧ (vecAt V i).cost ≤ (vecAt V j).cost + (memAt l i k).cost := fun i k hi hk hl => by
    refine ⟨lan_root h hi hk hj hm (hlan.trans hl.symm), ?_⟩
    by_cases e : j = i ∧ m = k
    · obtain ⟨rfl, rfl⟩ := e
      have := (cost_pos hv hi hk).1
      omega
    · exact near_cost h hi hk hj hm (onLan_of i k j m (hlan.trans hl.symm) e)
  have hbest : ∀ i k, i < l.length → k < (nodeAt l i).ports.length → bestAt (leafNet l lan c) (V ++ [x]) i k = bestAt l V i k := fun i k hi hk => by
    rw [Bool.eq_iff_iff, best_iff, best_iff]
    constructor
    · intro hb j q hj hq ho
      have := hb j q (by rw [leaf_len]; omega) (by rw [leaf_lt hj]; exact hq) (by rw [leaf_onLan hi hj]; exact ho)
      rw [leaf_tell hV hj, leaf_tell hV hi] at this
      exact this
    · intro hb' j' q hj' hq ho
      rw [leaf_len] at hj'
      by_cases ej : j' < l.length
      · rw [leaf_lt ej] at hq
        rw [leaf_onLan hi ej] at ho
        rw [leaf_tell hV ej, leaf_tell hV hi]
        exact hb' j' q ej hq ho
      · obtain rfl : j' = l.length := by omega
        obtain rfl := leaf_mem hq
        rw [leaf_lan hi, decide_eq_true_eq] at ho
        obtain ⟨rfl, rfl⟩ := best_unique hv hi hk hj hm (hlan.trans ho.symm) (best_iff.2 hb') hb
        rw [leaf_tell hV hi, better_parts]
        have r1 : (tellAt (leafNet l lan c) (V ++ [x]) l.length 0).root = x.root := by unfold tellAt vecAt; rw [leaf_vecE hV]; rfl
        have c1 : (tellAt (leafNet l lan c) (V ++ [x]) l.length 0).cost = x.cost := by unfold tellAt vecAt; rw [leaf_vecE hV]; rfl
        have r2 : (tellAt l V i k).root = (vecAt V i).root := rfl
        have c2 : (tellAt l V i k).cost = (vecAt V i).cost := rfl
        rw [r1, c1, r2, c2, xr, xc, lessB_irrefl]
        have n1 : ¬ (vecAt V i).cost + c < (vecAt V i).cost := by omega
        have n2 : ¬ (vecAt V i).cost + c = (vecAt V i).cost := by omega
        simp [n1, n2]
  refine ⟨x, ⟨by rw [List.length_append, hV, leaf_len]; rfl, ?_, ?_, ?_, ?_⟩, ?_, ?_, ?_⟩
  · intro i hi
    rw [leaf_len] at hi
    by_cases e : i < l.length
    · rw [leaf_vec hV e]; exact h.ok i e
    · obtain rfl : i = l.length := by omega
      rw [leaf_vecE hV, hx]
      exact ok_heard hv' (h.ok j hj) hL h0L hjL hmL
  · intro i hi
    rw [leaf_len] at hi
    by_cases e : i < l.length
    · rw [leaf_vec hV e, leaf_lt e]; exact h.own i e
    · obtain rfl : i = l.length := by omega
      rw [leaf_vecE hV, leaf_end, better_parts]
      have r1 : (ownM (leafN lan c)).root = leafB := rfl
      rw [r1, hworst]
      have n1 : decide (leafB = x.root) = false := decide_eq_false (fun e => hne e.symm)
      rw [n1]; rfl
  · intro i k j' q hi hk hj' hq ho
    rw [leaf_len] at hi hj'
    by_cases ei : i < l.length
    · by_cases ej : j' < l.length
      · rw [leaf_lt ei] at hk
        rw [leaf_lt ej] at hq
        rw [leaf_onLan ei ej] at ho
        rw [leaf_vec hV ei, leaf_vec hV ej, leaf_heard ei ej]
        exact h.hear i k j' q ei hk ej hq ho
      · obtain rfl : j' = l.length := by omega
        obtain rfl := leaf_mem hq
        rw [leaf_lt ei] at hk
        rw [leaf_lan ei, decide_eq_true_eq] at ho
        obtain ⟨a1, a2⟩ := hcost i k ei hk ho
        rw [leaf_vec hV ei, leaf_vecE hV, better_parts, heard_root, heard_cost, xr, xc]
        have e1 : (memAt (leafNet l lan c) i k).cost = (memAt l i k).cost := by unfold memAt; rw [leaf_lt ei]
        have e2 : (V.getD i default).root = (vecAt V j).root := a1
        have e3 : (V.getD i default).cost = (vecAt V i).cost := rfl
        rw [e1, e2, e3, lessB_irrefl]
        have n1 : ¬ (vecAt V j).cost + c + (memAt l i k).cost < (vecAt V i).cost := by omega
        have n2 : ¬ (vecAt V j).cost + c + (memAt l i k).cost = (vecAt V i).cost := by omega
        simp [n1, n2]
    · obtain rfl : i = l.length := by omega
      obtain rfl := leaf_mem hk
      by_cases ej : j' < l.length
      · rw [leaf_lt ej] at hq
        rw [leaf_lan' ej, decide_eq_true_eq] at ho
        rw [leaf_vecE hV, leaf_vec hV ej, hx]
        have h3 := hmin j' q ej hq ho
        rw [← leaf_tell (x := x) (lan := lan) (c := c) hV ej, ← leaf_tell (x := x) (lan := lan) (c := c) hV hj] at h3
        cases h4 : better (tellAt (leafNet l lan c) (V ++ [x]) j m) (tellAt (leafNet l lan c) (V ++ [x]) j' q)
        · have h5 := better_total h4 h3
          rw [leaf_tell hV ej, leaf_tell hV hj] at h5
          obtain ⟨rfl, rfl⟩ := tell_inj hv hj hm ej hq h5
          exact better_irrefl _
        · have h5 := heard_of_tell (l := leafNet l lan c) (V := V ++ [x]) (i := l.length) (k := 0) h4
          unfold vecAt at h5
          rw [leaf_vec hV ej, leaf_vec hV hj] at h5
          exact better_asymm h5
      · obtain rfl : j' = l.length := by omega
        obtain rfl := leaf_mem hq
        rw [leaf_self] at ho; cases ho
  · intro i hi
    rw [leaf_len] at hi
    by_cases e : i < l.length
    · rw [leaf_vec hV e, leaf_lt e]
      rcases h.hit i e with e1 | ⟨k, j, q, hk, hj, hq, ho, e1⟩
      · exact .inl e1
      · exact .inr ⟨k, j, q, hk, by rw [leaf_len]; omega, by rw [leaf_lt hj]; exact hq, by rw [leaf_onLan e hj]; exact ho, by rw [leaf_vec hV hj, leaf_heard e hj]; exact e1⟩
    · obtain rfl : i = l.length := by omega
      rw [leaf_vecE hV]
      exact .inr ⟨0, j, m, h0L, hjL, hmL, by rw [leaf_lan' hj, decide_eq_true_eq]; exact hlan, by rw [leaf_vec hV hj]; exact hx⟩
  · intro i k hi hk
    exact leaf_role hV hi (hbest i k hi hk)
  · intro _
    refine ⟨hne, role_two.2 ⟨?_, ?_, ?_⟩⟩
    · cases hbb : bestAt (leafNet l lan c) (V ++ [x]) l.length 0
      · rfl
      · have := best_iff.1 hbb j m hjL hmL (by rw [leaf_lan' hj, decide_eq_true_eq]; exact hlan)
        rw [leaf_tell hV hj, better_parts] at this
        have r1 : (tellAt (leafNet l lan c) (V ++ [x]) l.length 0).root = x.root := by unfold tellAt vecAt; rw [leaf_vecE hV]; rfl
        have c1 : (tellAt (leafNet l lan c) (V ++ [x]) l.length 0).cost = x.cost := by unfold tellAt vecAt; rw [leaf_vecE hV]; rfl
        have r2 : (tellAt l V j m).root = (vecAt V j).root := rfl
        have c2 : (tellAt l V j m).cost = (vecAt V j).cost := rfl
        rw [r1, c1, r2, c2, xr, xc] at this
        have n1 : (vecAt V j).cost < (vecAt V j).cost + c := by omega
        simp [n1] at this
    · unfold vecAt brAt
      rw [leaf_vecE hV, leaf_end]; exact hne
    · unfold vecAt memAt
      rw [leaf_vecE hV, leaf_end, xa]; rfl
  · intro hy; rw [hn] at hy; cases hy
theorem leaf_all : ∃ x, Leaf l V lan c x := by
  cases hn : nearTo l lan l.length 0
  · exact ⟨_, leaf_far hv' h hn⟩
  · exact leaf_near hv hv' h hn
end
end
end Go.Proofs.Ythpgdipcdllfdaa

/- Dearer by as much: the solution and the roles of a net whose costs are all so many times as much. No program in sight. -/
import Derived.Test.YthpgdipcdllfdaaPorts1
namespace Go.Proofs.Ythpgdipcdllfdaa
def scM (by_ : Int) (m : Mem) : Mem := { m with cost := m.cost * by_ }
def scN (by_ : Int) (n : Node) : Node := { n with ports := n.ports.map (scM by_) }
def scV (by_ : Int) (v : Vec) : Vec := { v with cost := v.cost * by_ }
section
variable {l : List Node} {by_ : Int}
theorem nodeAt_map {f : Node → Node} (hf : ∀ i, i < l.length → True) {i : Nat} (hi : i < l.length) : nodeAt (l.map f) i = f (nodeAt l i) := by
  unfold nodeAt
  rw [List.getD_eq_getElem?_getD, List.getElem?_map, List.getElem?_eq_getElem hi, List.getD_eq_getElem?_getD, List.getElem?_eq_getElem hi]; rfl
theorem sc_node {i : Nat} (hi : i < l.length) : nodeAt (l.map (scN by_)) i = scN by_ (nodeAt l i) := nodeAt_map (fun _ _ => trivial) hi
theorem sc_ports {n : Node} : (scN by_ n).ports.length = n.ports.length := by simp [scN]
theorem sc_port {n : Node} {k : Nat} (hk : k < n.ports.length) : portAt (scN by_ n) k = scM by_ (portAt n k) := by
  unfold portAt scN
  simp only [List.getD_eq_getElem?_getD, List.getElem?_map, List.getElem?_eq_getElem hk]; rfl
theorem sc_onLan {i k j m : Nat} (hi : i < l.length) (hk : k < (nodeAt l i).ports.length) (hj : j < l.length) (hm : m < (nodeAt l j).ports.length) : onLan (l.map (scN by_)) i k j m = onLan l i k j m := by
  unfold onLan
  rw [sc_node hi, sc_node hj, sc_port hk, sc_port hm]; rfl
theorem sc_better (h : 1 ≤ by_) (a b : Vec) : better (scV by_ a) (scV by_ b) = better a b := by
  rw [better_parts, better_parts]
  have h1 : decide ((scV by_ a).cost < (scV by_ b).cost) = decide (a.cost < b.cost) := by
    have : (scV by_ a).cost < (scV by_ b).cost ↔ a.cost < b.cost := Int.mul_lt_mul_right (by omega)
    simp only [this]
  have h2 : decide ((scV by_ a).cost = (scV by_ b).cost) = decide (a.cost = b.cost) := by
    have : (scV by_ a).cost = (scV by_ b).cost ↔ a.cost = b.cost := Int.mul_eq_mul_right_iff (by omega)
    simp only [this]
  rw [h1, h2]; rfl
theorem sc_own (n : Node) : ownM (scN by_ n) = scV by_ (ownM n) := by simp [ownM, scN, scV]
theorem sc_heard {v : Vec} {i k j m : Nat} (hi : i < l.length) (hk : k < (nodeAt l i).ports.length) (hj : j < l.length) (hm : m < (nodeAt l j).ports.length) : heardOf (l.map (scN by_)) (scV by_ v) i k j m = scV by_ (heardOf l v i k j m) := by
  unfold heardOf hearsM tellsM
  rw [sc_node hi, sc_node hj, sc_port hk, sc_port hm]
  simp only [scV, scM, scN, Int.add_mul]
theorem sc_vec {V : List Vec} {i : Nat} (hi : i < V.length) : (V.map (scV by_)).getD i default = scV by_ (V.getD i default) := by
  simp only [List.getD_eq_getElem?_getD, List.getElem?_map, List.getElem?_eq_getElem hi]; rfl
theorem sc_sol (hby : 1 ≤ by_) {V : List Vec} (h : Sol l V) : Sol (l.map (scN by_)) (V.map (scV by_)) := by
  have hl : (l.map (scN by_)).length = l.length := by simp
  have pl : ∀ {i}, i < l.length → (nodeAt (l.map (scN by_)) i).ports.length = (nodeAt l i).ports.length := fun {i} hi => by rw [sc_node hi, sc_ports]
  refine ⟨by simp [h.len], ?_, ?_, ?_, ?_⟩
  · intro i hi
    rw [hl] at hi
    rw [sc_vec (by rw [h.len]; exact hi)]
    have := h.ok i hi
    exact ⟨this.root, Int.mul_nonneg this.cost (by omega), this.label⟩
  · intro i hi
    rw [hl] at hi
    rw [sc_vec (by rw [h.len]; exact hi), sc_node hi, sc_own, sc_better hby]
    exact h.own i hi
  · intro i k j m hi hk hj hm ho
    rw [hl] at hi hj
    rw [pl hi] at hk
    rw [pl hj] at hm
    rw [sc_onLan hi hk hj hm] at ho
    rw [sc_vec (i := i) (by rw [h.len]; exact hi), sc_vec (i := j) (by rw [h.len]; exact hj), sc_heard hi hk hj hm, sc_better hby]
    exact h.hear i k j m hi hk hj hm ho
  · intro i hi
    rw [hl] at hi
    rw [sc_vec (by rw [h.len]; exact hi)]
    rcases h.hit i hi with e | ⟨k, j, m, hk, hj, hm, ho, e⟩
    · left; rw [e, sc_node hi, sc_own]
    · right
      refine ⟨k, j, m, by rw [pl hi]; exact hk, by rw [hl]; exact hj, by rw [pl hj]; exact hm, by rw [sc_onLan hi hk hj hm]; exact ho, ?_⟩
      rw [sc_vec (by rw [h.len]; exact hj), sc_heard hi hk hj hm, e]
theorem sc_solve (hby : 1 ≤ by_) (hv : validNet l = true) (hv' : validNet (l.map (scN by_)) = true) : solveM (l.map (scN by_)) = (solveM l).map (scV by_) :=
  sol_unique hv' (sol_solve hv') (sc_sol hby (sol_solve hv))
theorem sc_best (hby : 1 ≤ by_) {V : List Vec} (hV : V.length = l.length) {i k : Nat} (hi : i < l.length) (hk : k < (nodeAt l i).ports.length) : bestAt (l.map (scN by_)) (V.map (scV by_)) i k = bestAt l V i k := by
  have hl : (l.map (scN by_)).length = l.length := by simp
  have pl : ∀ {i}, i < l.length → (nodeAt (l.map (scN by_)) i).ports.length = (nodeAt l i).ports.length := fun {i} hi => by rw [sc_node hi, sc_ports]
  have ht : ∀ {j m}, j < l.length → m < (nodeAt l j).ports.length → tellAt (l.map (scN by_)) (V.map (scV by_)) j m = scV by_ (tellAt l V j m) := fun {j m} hj hm => by
    unfold tellAt tellsM vecAt
    rw [sc_vec (by rw [hV]; exact hj), sc_node hj, sc_port hm]; rfl
  rw [Bool.eq_iff_iff, best_iff, best_iff]
  constructor
  · intro h j m hj hm ho
    have := h j m (by rw [hl]; exact hj) (by rw [pl hj]; exact hm) (by rw [sc_onLan hi hk hj hm]; exact ho)
    rw [ht hj hm, ht hi hk, sc_better hby] at this
    exact this
  · intro h j m hj hm ho
    rw [hl] at hj
    rw [pl hj] at hm
    rw [sc_onLan hi hk hj hm] at ho
    rw [ht hj hm, ht hi hk, sc_better hby]
    exact h j m hj hm ho
theorem sc_role (hby : 1 ≤ by_) {V : List Vec} (hV : V.length = l.length) {i k : Nat} (hi : i < l.length) (hk : k < (nodeAt l i).ports.length) : roleAt (l.map (scN by_)) (V.map (scV by_)) i k = roleAt l V i k := by
  unfold roleAt roleM vecAt
  rw [sc_best hby hV hi hk, sc_vec (by rw [hV]; exact hi), sc_node hi, sc_port hk]; rfl
theorem ints_ext {a b : List Int} (hl : a.length = b.length) (h : ∀ k, k < a.length → a.getD k 0 = b.getD k 0) : a = b := by
  refine List.ext_getElem hl fun k h1 h2 => ?_
  have := h k h1
  simpa [List.getD_eq_getElem?_getD, List.getElem?_eq_getElem h1, List.getElem?_eq_getElem h2] using this
theorem sc_roles (hby : 1 ≤ by_) (hv : validNet l = true) (hv' : validNet (l.map (scN by_)) = true) {i : Nat} (hi : i < l.length) : (rolesM (l.map (scN by_))).getD i [] = (rolesM l).getD i [] := by
  have hl : (l.map (scN by_)).length = l.length := by simp
  have hp : (nodeAt (l.map (scN by_)) i).ports.length = (nodeAt l i).ports.length := by rw [sc_node hi, sc_ports]
  have h1 := rolesM_len l hi
  have h2 := rolesM_len (l.map (scN by_)) (i := i) (by rw [hl]; exact hi)
  refine ints_ext (by rw [h1, h2, hp]) fun k hk => ?_
  rw [h2, hp] at hk
  rw [rolesM_get _ (by rw [hl]; exact hi) (by rw [hp]; exact hk), rolesM_get l hi hk, sc_solve hby hv hv']
  exact sc_role hby (sol_solve hv).len hi hk
end
end Go.Proofs.Ythpgdipcdllfdaa

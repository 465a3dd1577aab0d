/- slices.Clone and slices.Insert of spans. (Printed by tools/mkrg7.py.) -/
import Derived.Test.YtjekdodboihfhaaRg5
import Derived.Lib.Overlaps
import Derived.Lib.AppendZerosOnto
import Derived.Laws.CopyRow
import Derived.Shelf.Spec.SlicesInsert
set_option linter.all false
namespace Go.Proofs.Ytjekdodboihfhaa
open Go.RowKit Go.ChangeShapes Go.WideShapes
theorem St.unOwn {B : Nat} {w0 w : World} {A : List It} {e size g n cap : Nat} {xs : List Value} (H : St B w0 w (ownI e size (.slice (some ⟨g, 0, none⟩) n cap) n xs :: A)) :
    ∃ ys, (xs ++ ys).length = cap * size ∧ xs.length = n * size ∧ n ≤ cap ∧ cap ≤ maxLen ∧ St B w0 w (bk g e (xs ++ ys) :: A) := by
  obtain ⟨hl, h1 | ⟨g', cap', cur, e1, _, hh, hc, hm, hs, ht⟩⟩ := H.head
  · injection h1.1 with h2; cases h2
  · injection e1 with e1 _ e3
    injection e1 with e1
    injection e1 with e1
    subst e1 e3
    have hcur : xs ++ cur.toList.drop (n * size) = cur.toList := by rw [← ht, List.take_append_drop]
    refine ⟨cur.toList.drop (n * size), by rw [hcur]; simpa using hs, hl, hc, hm, ?_⟩
    rw [hcur]
    exact H.step (k' := bk g e cur.toList) (Fr.refl _ _) (by
      show Blk w g e cur.toList
      unfold Blk
      simpa using hh) (fun x hx => .inl hx)
theorem St.reOwn {B : Nat} {w0 w : World} {A : List It} {e size g n cap : Nat} {L xs : List Value} (H : St B w0 w (bk g e L :: A)) (hL : L.length = cap * size) (hn : n ≤ cap) (hc : cap ≤ maxLen) (hx : L.take (n * size) = xs) :
    St B w0 w (ownI e size (.slice (some ⟨g, 0, none⟩) n cap) n xs :: A) := by
  have hb := H.head
  refine H.step (k' := ownI e size (.slice (some ⟨g, 0, none⟩) n cap) n xs) (Fr.refl _ _) ⟨?_, .inr ⟨g, cap, L.toArray, rfl, Nat.zero_le _, hb, hn, hc, by simpa using hL, by simpa using hx⟩⟩ (fun x hx => .inl hx)
  rw [← hx, List.length_take, hL]
  exact Nat.min_eq_left (Nat.mul_le_mul_right _ hn)
theorem St.row {B : Nat} {w0 w : World} {A : List It} {g t : Nat} {L : List Value} (h : St B w0 w (bk g t L :: A)) (L' : List Value) : St B w0 (w.setRow g L'.toArray) (bk g t L' :: A) := by
  have hB : w.heap[g]? = some (.cells L.toArray t (0, 0)) := h.head
  refine h.sets ?_ ⟨rfl, rfl, rfl, by simp [World.setRow], fun k hk => setRow_other w g k _ hk⟩
  show Blk _ g t _
  unfold Blk
  rw [setRow_heap w g _ _ t _ hB]
theorem run_copy_rowK {P : Program} (w : World) (k : Nat) (dT sT ty elem : TypeId) (g o dLen dCap : Nat) (a : Addr) (sLen sCap : Nat) (L : List Value) (t : TypeId) (cs : List Value)
    (hu : P.underlying dT = some (.slice elem)) (hs : (P.info? elem).map (·.size) = some k)
    (hg : Blk w g t L) (hn : cs.length = Nat.min sLen dLen * k)
    (hsrc : ∀ j v, cs[j]? = some v → w.cell? (a.add j) = some v) (hfit : o + cs.length ≤ L.length) (h1 : ∀ v ∈ cs, v.oneCell' = true) :
    (Builtin.copy_ #[dT, sT] ty #[.slice (some ⟨g, o, none⟩) dLen dCap, .slice (some a) sLen sCap]).run P w =
      .ok (goInt (Nat.min sLen dLen)) (w.setRow g (L.take o ++ cs ++ L.drop (o + cs.length)).toArray) := by
  have hl := run_loadCells_list (P := P) w a cs hsrc
  have hst := run_storeCells_at P g o t cs 0 L.toArray w hg (by simpa using hfit) h1
  cases hq : P.info? elem with
  | none => simp [hq] at hs
  | some i =>
    have hi : i.size = k := by simpa [hq] using hs
    have hst' : (storeCells ⟨g, o, none⟩ cs 0).run P w = .ok () (w.setRow g (L.take o ++ cs ++ L.drop (o + cs.length)).toArray) := by simpa using hst
    simp [Builtin.copy_, run_underlying hu, Builtin.lenOf, Builtin.firstCells, sizeOf, typeInfo, hq, hi, ← hn, hl, hst']
theorem ins_grow (R xs vs : List Value) (a : Nat) (ha : a ≤ xs.length) (hR : R.take a = xs.take a) (hv : vs.length = 3) (hl : xs.length + 3 ≤ R.length) :
    ((R.take a ++ vs ++ R.drop (a + vs.length)).take (a + 3) ++ xs.drop a ++ (R.take a ++ vs ++ R.drop (a + vs.length)).drop (a + 3 + (xs.drop a).length)).take (xs.length + 3) = xs.take a ++ vs ++ xs.drop a := by
  have h1 : (R.take a ++ vs).length = a + 3 := by rw [List.length_append, List.length_take, hv, Nat.min_eq_left (by omega)]
  have h2 : (R.take a ++ vs ++ R.drop (a + vs.length)).take (a + 3) = R.take a ++ vs := by rw [← h1, List.take_left']; rfl
  rw [h2, hR]
  have h3 : (xs.take a ++ vs ++ xs.drop a).length = xs.length + 3 := by
    rw [List.length_append, List.length_append, List.length_take, List.length_drop, hv, Nat.min_eq_left ha]; omega
  rw [List.take_left' h3]
theorem ins_shift (L xs vs : List Value) (a : Nat) (ha : a ≤ xs.length) (hL : L.take xs.length = xs) (hv : vs.length = 3) (hl : xs.length + 3 ≤ L.length) :
    ((L.take (a + 3) ++ xs.drop a ++ L.drop (a + 3 + (xs.drop a).length)).take a ++ vs ++ (L.take (a + 3) ++ xs.drop a ++ L.drop (a + 3 + (xs.drop a).length)).drop (a + vs.length)).take (xs.length + 3) = xs.take a ++ vs ++ xs.drop a := by
  have h1 : (L.take (a + 3)).length = a + 3 := by rw [List.length_take]; omega
  have h2 : (L.take (a + 3) ++ xs.drop a ++ L.drop (a + 3 + (xs.drop a).length)).take a = xs.take a := by
    rw [List.append_assoc, List.take_append_of_le_length (by omega), List.take_take, Nat.min_eq_left (by omega)]
    conv => rhs; rw [← hL, List.take_take, Nat.min_eq_left ha]
  have h3 : (L.take (a + 3) ++ xs.drop a ++ L.drop (a + 3 + (xs.drop a).length)).drop (a + vs.length) = xs.drop a ++ L.drop (a + 3 + (xs.drop a).length) := by
    rw [hv, List.append_assoc, List.drop_left' h1]
  rw [h2, h3, ← List.append_assoc]
  have h4 : (xs.take a ++ vs ++ xs.drop a).length = xs.length + 3 := by
    rw [List.length_append, List.length_append, List.length_take, List.length_drop, hv, Nat.min_eq_left ha]; omega
  rw [List.take_left' h4]
theorem blk_shape {w : World} {g : Nat} {t : TypeId} {L : List Value} (h : Blk w g t L) : w.shape? g = some (t, L.length) := by
  unfold Blk at h
  simp [World.shape?, h]
theorem span_size : (Try.prog.info? 37).map (·.size) = some 3 := by
  have h : (Try.prog.info? 37).map (fun i => (i.zero, i.size, i.bytes)) = some (some (.agg zSp.toArray), 3, 24) := by kernel_rfl
  obtain ⟨i, hi, _, hs, _⟩ := info_parts h
  rw [hi]; simp [hs]
def L1 (L xs : List Value) (i : Nat) : List Value := L.take (i * 3 + 3) ++ xs.drop (i * 3) ++ L.drop (i * 3 + 3 + (xs.drop (i * 3)).length)
def L2 (L xs vs : List Value) (i : Nat) : List Value := (L1 L xs i).take (i * 3) ++ vs ++ (L1 L xs i).drop (i * 3 + vs.length)
def OwnIns (B : Nat) (w0 : World) (A : List It) (N : Nat) (R : List Value) (e : Ending) (w' : World) : Prop :=
  ∃ g' cap', e = .returned (.slice (some ⟨g', 0, none⟩) N cap') ∧ St B w0 w' (ownI 37 3 (.slice (some ⟨g', 0, none⟩) N cap') N R :: A)
section
variable {B : Nat} {w0 w : World} {A : List It} {g vb n cap i vc : Nat} {xs ys : List Value}
set_option maxRecDepth 100000 in
set_option maxHeartbeats 4000000 in
theorem insert_end (x : Sp) (H : St B w0 w (ownI 37 3 (.slice (some ⟨g, 0, none⟩) n cap) n xs :: bk vb 37 x.vals :: A)) (h0 : 0 < n) (h60 : n ≤ 60) :
    Calls Try.prog 23 #[.slice (some ⟨g, 0, none⟩) n cap, .int .i64 n, .slice (some ⟨vb, 0, none⟩) 1 1] w (OwnIns B w0 A (n + 1) (xs ++ x.vals)) := by
  have H1 := Lib.hid H
  clear H
  go_enter Try.func23, Try.ntmps23
  go_wp2_with (at_builtin; go_must (refine wpList_append_st (t := 27) (e := 37) (size := 3) (bytes := 24) (n := n) (m := 1) (c := 1) xs x.vals elemSp H1.out (by with_unfolding_all rfl) (by with_unfolding_all rfl) (fun j u hj => by rw [Addr.add_lit]; exact (Blk.box (H1.out.at 1 rfl)).range j u hj) rfl (Sp.one x) (by decide) (by unfold maxLen; omega) (by omega) (fun gT capT W14 H14 => ?_)))
  all_goals
    go_ret
    exact ⟨_, _, rfl, H14.swap.tail⟩
set_option maxRecDepth 100000 in
set_option maxHeartbeats 4000000 in
theorem insert_shift (x : Sp) (H : St B w0 w (bk g 37 (xs ++ ys) :: bk vb 37 x.vals :: A)) (hx : xs.length = n * 3) (hy : (xs ++ ys).length = cap * 3) (h1 : ∀ u ∈ xs, u.oneCell' = true) (hi : i < n) (hnc : n + 1 ≤ cap) (hc63 : cap ≤ maxLen) (h60 : n ≤ 60) :
    Calls Try.prog 23 #[.slice (some ⟨g, 0, none⟩) n cap, .int .i64 i, .slice (some ⟨vb, 0, none⟩) 1 1] w (OwnIns B w0 A (n + 1) (xs.take (i * 3) ++ x.vals ++ xs.drop (i * 3))) := by
  have hvb : vb ≠ g := fun e => H.ne g (by simp [bk]) (by simp [bk, e])
  have hsa : w.shape? vb = some (37, 3) := blk_shape (L := x.vals) (H.at 1 rfl)
  have hsb : w.shape? g = some (37, cap * 3) := by rw [← hy]; exact blk_shape H.head
  have hov : ∀ lb cb, (callFunc 43 #[.slice (some ⟨vb, 0, none⟩) 1 1, .slice (some ⟨g, (i + 1) * 3, none⟩) lb cb]).run Try.prog w = .ok (.value (.bool false)) w := fun lb cb => by
    rw [run_callFunc_extern Try.func43 (by kernel_rfl) (by kernel_rfl) (by kernel_rfl) (e := Extern.SlicesOverlaps.overlaps #[27, 27] #[4]) (by kernel_rfl),
      Lib.run_overlaps_apart w 27 4 37 Try.underlying27 3 Try.sizeOf37 ⟨vb, 0, none⟩ ⟨g, (i + 1) * 3, none⟩ 1 1 lb cb hvb 37 37 3 (cap * 3) hsa hsb (by omega) ((Blk.box (H.at 1 rfl)).frozen 0) ((Blk.box (H.at 1 rfl)).frozen 3)]
    rfl
  have H1 := Lib.hid H
  have hz1 : ¬ ((i : Int) = (n : Int)) := by omega
  have hz2 : ¬ ((cap : Int) < (n : Int) + 1) := by omega
  clear H
  have hcp1 : ∀ ty dc sc, (Builtin.copy_ #[27, 27] ty #[.slice (some ⟨g, (i + 1) * 3, none⟩) (n + 1 - (i + 1)) dc, .slice (some ⟨g, i * 3, none⟩) (n + 1 - i) sc]).run Try.prog w.drew = .ok (goInt ((n - i : Nat) : Int)) (w.drew.setRow g (L1 (xs ++ ys) xs i).toArray) := fun ty dc sc => by
    have h := run_copy_rowK w.drew 3 27 27 ty 37 g ((i + 1) * 3) (n + 1 - (i + 1)) dc ⟨g, i * 3, none⟩ (n + 1 - i) sc (xs ++ ys) 37 (xs.drop (i * 3)) Try.underlying27 span_size H1.out.drew.head
      (by rw [List.length_drop, hx]; simp only [Nat.min_def]; split <;> omega) (fun j v hj => by
        rw [Addr.add_lit, H1.out.drew.cell, List.getElem?_toArray, List.getElem?_append_left (by rw [List.getElem?_drop] at hj; exact (List.getElem?_eq_some_iff.1 hj).1), ← List.getElem?_drop]
        exact hj) (by rw [List.length_drop, hy, hx]; omega) (fun v hv => h1 v (List.mem_of_mem_drop hv))
    rw [h, show Nat.min (n + 1 - i) (n + 1 - (i + 1)) = n - i by simp only [Nat.min_def]; split <;> omega, show (i + 1) * 3 = i * 3 + 3 by omega]
    rfl
  have H2 : Hid (St B w0 (w.drew.setRow g (L1 (xs ++ ys) xs i).toArray) (bk g 37 (L1 (xs ++ ys) xs i) :: bk vb 37 x.vals :: A)) := Lib.hid (H1.out.drew.row _)
  have hL1 : (L1 (xs ++ ys) xs i).length = cap * 3 := by
    unfold L1
    rw [List.length_append, List.length_append, List.length_take, List.length_drop, List.length_drop, hy, hx]; omega
  obtain ⟨w2, hw2⟩ : ∃ w2, w.drew.setRow g (L1 (xs ++ ys) xs i).toArray = w2 := ⟨_, rfl⟩
  rw [hw2] at hcp1 H2
  have hcp2 : ∀ ty dc, (Builtin.copy_ #[27, 27] ty #[.slice (some ⟨g, i * 3, none⟩) (n + 1 - i) dc, .slice (some ⟨vb, 0, none⟩) 1 1]).run Try.prog w2 = .ok (goInt 1) (w2.setRow g (L2 (xs ++ ys) xs x.vals i).toArray) := fun ty dc => by
    have h := run_copy_rowK w2 3 27 27 ty 37 g (i * 3) (n + 1 - i) dc ⟨vb, 0, none⟩ 1 1 (L1 (xs ++ ys) xs i) 37 x.vals Try.underlying27 span_size H2.out.head
      (by rw [Sp.len]; simp only [Nat.min_def]; split <;> omega) (fun j v hj => by rw [Addr.add_lit]; exact (Blk.box (H2.out.at 1 rfl)).range j v hj) (by rw [hL1, Sp.len]; omega) (Sp.one x)
    rw [h, show Nat.min 1 (n + 1 - i) = 1 by simp only [Nat.min_def]; split <;> omega]
    rfl
  have H3 : Hid (St B w0 (w2.setRow g (L2 (xs ++ ys) xs x.vals i).toArray) (bk g 37 (L2 (xs ++ ys) xs x.vals i) :: bk vb 37 x.vals :: A)) := Lib.hid (H2.out.row _)
  have hL2 : (L2 (xs ++ ys) xs x.vals i).length = cap * 3 := by
    unfold L2
    rw [List.length_append, List.length_append, List.length_take, List.length_drop, hL1, Sp.len]; omega
  have hT : (L2 (xs ++ ys) xs x.vals i).take ((n + 1) * 3) = xs.take (i * 3) ++ x.vals ++ xs.drop (i * 3) := by
    have := ins_shift (xs ++ ys) xs x.vals (i * 3) (by omega) (by simp) (Sp.len x) (by omega)
    rw [hx, show n * 3 + 3 = (n + 1) * 3 by omega] at this
    exact this
  clear hw2
  generalize L2 (xs ++ ys) xs x.vals i = LL at *
  generalize w2.setRow g LL.toArray = w3 at *
  have hcm := hc63
  unfold maxLen at hc63
  have hw1 : IntKind.i64.wrap ((i : Int) + 1) = (i : Int) + 1 := by rw [IntKind.wrap_i64]; omega
  have hb1 : (0 : Int) ≤ (i : Int) + 1 := by omega
  have htn : ((i : Int) + 1).toNat = i + 1 := by omega
  have hb2 : ¬ (cap = i + 1) := by omega
  have hb3 : (i : Int) ≤ (n : Int) := by omega
  have hb4 : ¬ (cap = i) := by omega
  have hb5 : (i : Int) ≤ (n : Int) + 1 := by omega
  have hb6 : i ≤ n := by omega
  have mixed : Try.prog.follows Departure.mixedOrders = true := by kernel_rfl
  go_enter Try.func23, Try.ntmps23
  go_wp2_with (simp only [hov])
  go_region_law_o (refine step_copy_runI rfl _ _ 27 27 rfl (.slice (some ⟨g, (i + 1) * 3, none⟩) (n + 1 - (i + 1)) (cap - (i + 1))) (.slice (some ⟨g, i * 3, none⟩) (n + 1 - i) (cap - i)) (by simp [Act.eval, Act.put]) (by simp [Act.eval, Act.put]) (hcp1 3 (cap - (i + 1)) (cap - i)) ?_)
  go_wp2_with (at_builtin; refine wpList_copy_runI _ rfl _ _ 27 27 rfl _ _ rfl rfl (hcp2 _ _) ?_)
  go_ret
  exact ⟨_, _, rfl, (H3.out.swap.tail).reOwn hL2 hnc hcm hT⟩
set_option maxRecDepth 100000 in
set_option maxHeartbeats 4000000 in
theorem insert_grow (x : Sp) (H : St B w0 w (bk g 37 (xs ++ ys) :: bk vb 37 x.vals :: A)) (hx : xs.length = n * 3) (h1 : ∀ u ∈ xs, u.oneCell' = true) (hi : i < n) (hnc : n ≤ cap) (hc : cap < n + 1) (h60 : n ≤ 60) :
    Calls Try.prog 23 #[.slice (some ⟨g, 0, none⟩) n cap, .int .i64 i, .slice (some ⟨vb, 0, none⟩) 1 1] w (OwnIns B w0 A (n + 1) (xs.take (i * 3) ++ x.vals ++ xs.drop (i * 3))) := by
  have hq : (Try.prog.info? 37).map (fun i => (i.zero, i.size, i.bytes)) = some (some (.agg zSp.toArray), 3, 24) := by kernel_rfl
  obtain ⟨i0, hi0, hz0, hzs, hzb⟩ := info_parts hq
  have hold : (Builtin.firstCells i0.size i (.slice (some ⟨g, 0, none⟩) i cap)).run Try.prog w.drew = .ok (xs.take (i * 3)).toArray w.drew := by
    rw [hzs]
    exact run_firstCells_some w.drew 3 i ⟨g, 0, none⟩ i cap (xs.take (i * 3)) (by rw [List.length_take]; omega) (fun j v hj => by
      rw [Addr.add_lit, H.drew.cell, List.getElem?_toArray, Nat.zero_add]
      rw [List.getElem?_take] at hj
      split at hj
      · rw [List.getElem?_append_left (List.getElem?_eq_some_iff.1 hj).1]; exact hj
      · cases hj)
  obtain ⟨G, hG⟩ : ∃ G, G = grownCap w (n + 1) cap 37 := ⟨_, rfl⟩
  have hGn : n + 1 ≤ G := by rw [hG]; exact grownCap_ge w _ _ _
  have hGm : G ≤ maxLen := by
    have := grownCap_le_maxLen w (n + 1) cap 37 (by unfold maxLen; omega)
    rw [← hG] at this; exact this
  obtain ⟨R, hR⟩ : ∃ R : List Value, R = xs.take (i * 3) ++ ((Builtin.zeroCells (Value.agg zSp.toArray).cells (n + 1 - i)).toList ++ (Builtin.zeroCells (Value.agg zSp.toArray).cells (G - (n + 1))).toList) := ⟨_, rfl⟩
  have hcz : (Value.agg zSp.toArray).cells.size = 3 := by decide
  have hRl : R.length = G * 3 := by
    rw [hR]
    simp only [List.length_append, List.length_take, Builtin.zeroCells, Array.toList_map, List.length_map, Array.length_toList, Array.size_range, hcz]
    omega
  have hRt : R.take (i * 3) = xs.take (i * 3) := by
    rw [hR, List.take_left']
    rw [List.length_take]; omega
  have hrz : ∀ ty, (Builtin.append_ #[27, 3] ty #[.slice (some ⟨g, 0, none⟩) i cap, .int .i64 ((n : Int) + 1 - (i : Int))]).run Try.prog w = .ok (.slice (some ⟨w.heap.size, 0, none⟩) (n + 1) G) (w.drew.alloc (.cells R.toArray 37)) := fun ty => by
    have h := Lib.run_append_grow_zeros w 27 3 ty 37 i0 _ .i64 .i64 Try.underlying27 Try.underlying3 hi0 hz0 (some ⟨g, 0, none⟩) i cap (xs.take (i * 3)) hold (n + 1 - i) (by omega) (by omega) (by omega) (by omega) (by rw [hzb]; omega) (by rw [hzb]; exact growslice_fits (by omega) (by omega))
    have e1 : i + (n + 1 - i) = n + 1 := by omega
    have e2 : ((n + 1 - i : Nat) : Int) = (n : Int) + 1 - (i : Int) := by omega
    rw [e1, e2, ← hG] at h
    rw [h]
    congr 4
    rw [hR]
    simp
  have H1 := Lib.hid H
  have H2 : Hid (St B w0 (w.drew.alloc (.cells R.toArray 37)) (bk w.heap.size 37 R :: bk g 37 (xs ++ ys) :: bk vb 37 x.vals :: A)) := Lib.hid (H.drew.alloc R _)
  clear H hold hR hi0 hz0 hzs hzb hq hG
  obtain ⟨N, hN⟩ : ∃ N, w.heap.size = N := ⟨_, rfl⟩
  rw [hN] at H2 hrz
  generalize w.drew.alloc (.cells R.toArray 37) = w2 at *
  have hcpA : ∀ ty dc, (Builtin.copy_ #[27, 27] ty #[.slice (some ⟨N, i * 3, none⟩) (n + 1 - i) dc, .slice (some ⟨vb, 0, none⟩) 1 1]).run Try.prog w2 = .ok (goInt 1) (w2.setRow N (R.take (i * 3) ++ x.vals ++ R.drop (i * 3 + x.vals.length)).toArray) := fun ty dc => by
    have h := run_copy_rowK w2 3 27 27 ty 37 N (i * 3) (n + 1 - i) dc ⟨vb, 0, none⟩ 1 1 R 37 x.vals Try.underlying27 span_size H2.out.head
      (by rw [Sp.len]; simp only [Nat.min_def]; split <;> omega) (fun j v hj => by rw [Addr.add_lit]; exact (Blk.box (H2.out.at 2 rfl)).range j v hj) (by rw [hRl, Sp.len]; omega) (Sp.one x)
    rw [h, show Nat.min 1 (n + 1 - i) = 1 by simp only [Nat.min_def]; split <;> omega]
    rfl
  obtain ⟨R2, hR2⟩ : ∃ R2, R2 = R.take (i * 3) ++ x.vals ++ R.drop (i * 3 + x.vals.length) := ⟨_, rfl⟩
  have hR2l : R2.length = G * 3 := by
    rw [hR2, List.length_append, List.length_append, List.length_take, List.length_drop, hRl, Sp.len]; omega
  have H3 : Hid (St B w0 (w2.setRow N R2.toArray) (bk N 37 R2 :: bk g 37 (xs ++ ys) :: bk vb 37 x.vals :: A)) := Lib.hid (H2.out.row R2)
  have hT : (R2.take (i * 3 + 3) ++ xs.drop (i * 3) ++ R2.drop (i * 3 + 3 + (xs.drop (i * 3)).length)).take ((n + 1) * 3) = xs.take (i * 3) ++ x.vals ++ xs.drop (i * 3) := by
    have := ins_grow R xs x.vals (i * 3) (by omega) hRt (Sp.len x) (by omega)
    rw [hx, show n * 3 + 3 = (n + 1) * 3 by omega, ← hR2] at this
    exact this
  rw [← hR2] at hcpA
  clear hR2 H2 hRt hRl
  generalize w2.setRow N R2.toArray = w3 at *
  have hcpB : ∀ ty dc sc, (Builtin.copy_ #[27, 27] ty #[.slice (some ⟨N, (i + 1) * 3, none⟩) (n + 1 - (i + 1)) dc, .slice (some ⟨g, i * 3, none⟩) (n - i) sc]).run Try.prog w3.drew = .ok (goInt ((n - i : Nat) : Int)) (w3.drew.setRow N (R2.take (i * 3 + 3) ++ xs.drop (i * 3) ++ R2.drop (i * 3 + 3 + (xs.drop (i * 3)).length)).toArray) := fun ty dc sc => by
    have h := run_copy_rowK w3.drew 3 27 27 ty 37 N ((i + 1) * 3) (n + 1 - (i + 1)) dc ⟨g, i * 3, none⟩ (n - i) sc R2 37 (xs.drop (i * 3)) Try.underlying27 span_size H3.out.drew.head
      (by rw [List.length_drop, hx]; simp only [Nat.min_def]; split <;> omega) (fun j v hj => by
        have hbx := (Blk.box (H3.out.drew.at 1 rfl)).range (i * 3 + j) v
        rw [Addr.add_lit]
        rw [Nat.zero_add] at hbx
        refine hbx ?_
        rw [List.getElem?_append_left (by rw [List.getElem?_drop] at hj; exact (List.getElem?_eq_some_iff.1 hj).1), ← List.getElem?_drop]
        exact hj) (by rw [List.length_drop, hR2l, hx]; omega) (fun v hv => h1 v (List.mem_of_mem_drop hv))
    rw [h, show Nat.min (n - i) (n + 1 - (i + 1)) = n - i by simp only [Nat.min_def]; split <;> omega, show (i + 1) * 3 = i * 3 + 3 by omega]
  obtain ⟨R3, hR3⟩ : ∃ R3, R3 = R2.take (i * 3 + 3) ++ xs.drop (i * 3) ++ R2.drop (i * 3 + 3 + (xs.drop (i * 3)).length) := ⟨_, rfl⟩
  have hR3l : R3.length = G * 3 := by
    rw [hR3, List.length_append, List.length_append, List.length_take, List.length_drop, List.length_drop, hR2l, hx]; omega
  rw [← hR3] at hcpB hT
  have H4 : Hid (St B w0 (w3.drew.setRow N R3.toArray) (bk N 37 R3 :: bk g 37 (xs ++ ys) :: bk vb 37 x.vals :: A)) := Lib.hid (H3.out.drew.row R3)
  clear hR3 H3 hR2l
  generalize w3.drew.setRow N R3.toArray = w4 at *
  have hGm' := hGm
  unfold maxLen at hGm'
  have hz1 : ¬ ((i : Int) = (n : Int)) := by omega
  have hz2 : (cap : Int) < (n : Int) + 1 := by omega
  have hw1 : IntKind.i64.wrap ((i : Int) + 1) = (i : Int) + 1 := by rw [IntKind.wrap_i64]; omega
  have hb1 : (0 : Int) ≤ (i : Int) + 1 := by omega
  have htn : ((i : Int) + 1).toNat = i + 1 := by omega
  have hb2 : ¬ (G = i + 1) := by omega
  have hb3 : (i : Int) ≤ (n : Int) := by omega
  have hb4 : ¬ (G = i) := by omega
  have hb5 : (i : Int) ≤ (n : Int) + 1 := by omega
  have hb6 : i ≤ n := by omega
  have hb7 : ¬ (cap = i) := by omega
  have hb8 : (i : Int) ≤ (cap : Int) := by omega
  have mixed : Try.prog.follows Departure.mixedOrders = true := by kernel_rfl
  go_enter Try.func23, Try.ntmps23
  go_wp2_with (first
    | (at_builtin; refine Lib.wpList_append_run _ rfl _ _ _ _ rfl _ _ rfl rfl _ _ (hrz _) ?_)
    | (at_builtin; refine wpList_copy_runI _ rfl _ _ 27 27 rfl _ _ rfl rfl (hcpA _ _) ?_))
  go_region_law_o (refine step_copy_runI rfl _ _ 27 27 rfl (.slice (some ⟨N, (i + 1) * 3, none⟩) (n + 1 - (i + 1)) (G - (i + 1))) (.slice (some ⟨g, i * 3, none⟩) (n - i) (cap - i)) (by simp [Act.eval, Act.put]) (by simp [Act.eval, Act.put]) (hcpB 3 (G - (i + 1)) (cap - i)) ?_)
  go_wp2_with fail
  go_ret
  exact ⟨_, _, rfl, (H4.out.sub (by simp) : St B w0 w4 (bk N 37 R3 :: A)).reOwn hR3l hGn hGm hT⟩
end
end Go.Proofs.Ytjekdodboihfhaa

/- slices.Reverse at ports, in a row of one's own. -/
import Derived.Test.YthpgdipcdllfdaaBut
import Derived.RegionTactic
namespace Go.Proofs.Ythpgdipcdllfdaa
open Go.RowKit
/-- The first and the last k of a list exchanged. -/
def swTo (ms : List Mem) (k : Nat) : List Mem := (List.range ms.length).map fun x => if x < k ∨ ms.length ≤ x + k then ms.getD (ms.length - 1 - x) default else ms.getD x default
theorem swTo_len (ms : List Mem) (k : Nat) : (swTo ms k).length = ms.length := by simp [swTo]
theorem swTo_at (ms : List Mem) (k : Nat) {x : Nat} (hx : x < ms.length) : (swTo ms k)[x]'(by rw [swTo_len]; exact hx) = if x < k ∨ ms.length ≤ x + k then ms.getD (ms.length - 1 - x) default else ms.getD x default := by simp [swTo]
theorem swTo_zero (ms : List Mem) : swTo ms 0 = ms := by
  refine List.ext_getElem (swTo_len _ _) fun x h1 h2 => ?_
  rw [swTo_at ms 0 h2, if_neg (by omega), List.getD_eq_getElem?_getD, List.getElem?_eq_getElem h2]; rfl
theorem swTo_end (ms : List Mem) {k : Nat} (hk : ms.length ≤ 2 * k + 1) : swTo ms k = ms.reverse := by
  refine List.ext_getElem (by rw [swTo_len, List.length_reverse]) fun x h1 h2 => ?_
  have hx : x < ms.length := by rw [swTo_len] at h1; exact h1
  rw [swTo_at ms k hx, List.getElem_reverse]
  split
  · rw [List.getD_eq_getElem?_getD, List.getElem?_eq_getElem (by omega)]; rfl
  · rw [List.getD_eq_getElem?_getD, List.getElem?_eq_getElem hx]
    simp only [Option.getD_some]
    congr 1; omega
theorem swTo_succ (ms : List Mem) {k m : Nat} (hm : k + m + 1 = ms.length) (hkm : k < m) : ((swTo ms k).set k (ms.getD m default)).set m (ms.getD k default) = swTo ms (k + 1) := by
  refine List.ext_getElem (by simp [swTo_len]) fun x h1 h2 => ?_
  have hx : x < ms.length := by rw [swTo_len] at h2; exact h2
  rw [swTo_at ms (k + 1) hx]
  by_cases e1 : m = x
  · subst e1
    rw [List.getElem_set_self, if_pos (.inr (by omega))]
    congr 1; omega
  · rw [List.getElem_set_ne e1]
    by_cases e2 : k = x
    · subst e2
      rw [List.getElem_set_self, if_pos (.inl (by omega))]
      congr 1; omega
    · rw [List.getElem_set_ne e2, swTo_at ms k hx]
      by_cases c : x < k ∨ ms.length ≤ x + k
      · rw [if_pos c, if_pos (by omega)]
      · rw [if_neg c, if_neg (by omega)]
theorem mem_cells {w : World} {base n g cap : Nat} {ms : List Mem} (h : w.ownsRow base 37 4 (.slice (some ⟨g, 0, none⟩) n cap) n (mrows ms)) (hn : ms.length = n) {q : Nat} (hq : q < ms.length) : w.rangeAt g (q * 4) ms[q].vals := by
  obtain ⟨A, c, e, _, hr⟩ := own_row (C := ms.map Mem.vals) h (fun c hc => by obtain ⟨v, _, rfl⟩ := List.mem_map.1 hc; rfl) (by rw [List.length_map]; exact hn)
  injection e with e1
  subst e1
  obtain ⟨g', e2, _, _, hk⟩ := hr (by omega)
  injection e2 with e2
  injection e2 with e2
  subst e2
  have := hk q (by rw [List.length_map]; exact hq)
  rw [List.getElem_map] at this
  exact this
theorem own_frozen {w : World} {base size n : Nat} {e : TypeId} {g cap : Nat} {xs : List Value} (h : w.ownsRow base e size (.slice (some ⟨g, 0, none⟩) n cap) n xs) (o : Nat) : w.frozen? ⟨g, o, none⟩ = false := by
  rcases h.2 with ⟨h', _⟩ | ⟨g', cap', cur, e1, e2, e3, _⟩
  · cases h'
  · injection e1 with e1
    injection e1 with e1
    injection e1 with e1
    subst e1
    simp [World.frozen?, e3]
/-- A row of cells of a row of one's own is stored. -/
theorem own_sets {w : World} {base n cap g size : Nat} {e : TypeId} {xs : List Value} (h : w.ownsRow base e size (.slice (some ⟨g, 0, none⟩) n cap) n xs) {o : Nat} (cs : List Value) (ho : o + cs.length ≤ n * size) :
    ∃ L, Blk w g e L ∧ o + cs.length ≤ L.length ∧ ∀ W, Blk W g e (L.take o ++ (cs ++ L.drop (o + cs.length))) → W.ownsRow base e size (.slice (some ⟨g, 0, none⟩) n cap) n (xs.take o ++ (cs ++ xs.drop (o + cs.length))) := by
  have hx : xs.length = n * size := h.1
  rcases h.2 with ⟨h0, _⟩ | ⟨g', cap', cur, e1, hb, hh, hc, hm, hs, ht⟩
  · cases h0
  · injection e1 with e1 e2 e3
    injection e1 with e1
    injection e1 with e1
    subst e1 e3
    have hlen : cur.toList.length = cap * size := by simpa using hs
    have hle : n * size ≤ cap * size := Nat.mul_le_mul_right _ hc
    refine ⟨cur.toList, by unfold Blk; simpa using hh, by omega, fun W hW => ?_⟩
    refine ⟨by simp; omega, .inr ⟨g, cap, (cur.toList.take o ++ (cs ++ cur.toList.drop (o + cs.length))).toArray, rfl, hb, hW, hc, hm, by simp; omega, ?_⟩⟩
    rw [← ht]
    simp only [List.toList_toArray]
    rw [List.take_append, List.take_append, List.length_take, Nat.min_eq_left (by omega), List.take_of_length_le (by rw [List.length_take]; omega), List.take_of_length_le (l := cs) (by omega)]
    rw [List.take_take, Nat.min_eq_left (by omega)]
    congr 2
    rw [List.drop_take]
    congr 1; omega
theorem flat_sets {s : Nat} (hs : 0 < s) : ∀ {C : List (List Value)}, (∀ c ∈ C, c.length = s) → ∀ {k : Nat} (_ : k < C.length) (x : List Value) (_ : x.length = s), C.flatten.take (k * s) ++ (x ++ C.flatten.drop (k * s + x.length)) = (C.set k x).flatten
  | [], _, k, hk, _, _ => absurd hk (by simp)
  | c :: C, h, k, hk, x, hx => by
    have hc := h c (List.mem_cons_self ..)
    cases k with
    | zero =>
      simp only [Nat.zero_mul, Nat.zero_add, List.flatten_cons, List.set_cons_zero, List.take_zero, List.nil_append]
      congr 1
      rw [List.drop_append, List.drop_of_length_le (by omega), hc, hx, Nat.sub_self]; rfl
    | succ k =>
      have ih := flat_sets hs (fun d hd => h d (List.mem_cons_of_mem _ hd)) (by simpa using hk : k < C.length) x hx
      simp only [List.flatten_cons, List.set_cons_succ]
      rw [← ih, List.take_append, List.take_of_length_le (by rw [hc, Nat.add_mul]; omega), List.drop_append, List.drop_of_length_le (by rw [hc, Nat.add_mul]; omega), hc]
      rw [show (k + 1) * s - s = k * s by rw [Nat.add_mul]; omega, show (k + 1) * s + x.length - s = k * s + x.length by rw [Nat.add_mul]; omega]
      simp
theorem mrows_sets (ms : List Mem) {k : Nat} (hk : k < ms.length) (x : Mem) : (mrows ms).take (k * 4) ++ (x.vals ++ (mrows ms).drop (k * 4 + x.vals.length)) = mrows (ms.set k x) := by
  unfold mrows
  rw [flat_sets (s := 4) (by omega) (fun c hc => by obtain ⟨m, _, rfl⟩ := List.mem_map.1 hc; rfl) (by simpa using hk) _ rfl, List.map_set]
/-- Port k of a row is stored. -/
theorem own_mem {w : World} {base n cap g : Nat} {ms : List Mem} (h : w.ownsRow base 37 4 (.slice (some ⟨g, 0, none⟩) n cap) n (mrows ms)) (hn : ms.length = n) {k : Nat} (hk : k < n) (x : Mem) :
    (w.setCells g (k * 4) x.vals).ownsRow base 37 4 (.slice (some ⟨g, 0, none⟩) n cap) n (mrows (ms.set k x)) := by
  have hl : x.vals.length = 4 := rfl
  obtain ⟨L, hB, hL, hW⟩ := own_sets h (o := k * 4) x.vals (by rw [hl]; omega)
  have := hW _ (hB.set x.vals (k * 4) hL)
  rw [mrows_sets ms (by omega)] at this
  exact this
set_option maxRecDepth 100000 in
set_option maxHeartbeats 4000000 in
theorem revM_some (ms : List Mem) (g cap n base : Nat) (hn : ms.length = n) (h0 : 0 < n) (h8 : n ≤ 8) (w : World) (h : w.ownsRow base 37 4 (.slice (some ⟨g, 0, none⟩) n cap) n (mrows ms)) :
    Calls Try.prog 28 #[.slice (some ⟨g, 0, none⟩) n cap] w fun e w' => e = .returned (.tuple #[]) ∧ w'.ownsRow base 37 4 (.slice (some ⟨g, 0, none⟩) n cap) n (mrows ms.reverse) ∧ But g w w' := by
  have Hn := Lib.hid hn
  have H0 := Lib.hid h
  clear hn h
  go_enter Try.func28, Try.ntmps28
  go_wp2_with fail
  go_loopw [2, 3] (fun i j wr => ∃ k m : Nat, k + m + 1 = n ∧ i = .int .i64 k ∧ j = .int .i64 m ∧ Hid (wr.ownsRow base 37 4 (.slice (some ⟨g, 0, none⟩) n cap) n (mrows (swTo ms k))) ∧ Hid (But g w wr)) (fun i j _ => (intOf j - intOf i + 1).toNat)
  case atStart => exact ⟨0, n - 1, by omega, rfl, by go_num, by rw [swTo_zero]; exact H0, Lib.hid (But.refl _ _)⟩
  case round =>
    clear H0
    obtain ⟨k, m, hkm, rfl, rfl, HO, HB⟩ := hrel
    by_cases hlt : k < m
    · have hk : k < ms.length := by rw [Hn.out]; omega
      have hm : m < ms.length := by rw [Hn.out]; omega
      have hls : (swTo ms k).length = n := by rw [swTo_len]; exact Hn.out
      have ha := mem_cells HO.out hls (q := k) (by omega)
      have hb := mem_cells HO.out hls (q := m) (by omega)
      rw [swTo_at ms k hk, if_neg (by rw [Hn.out]; omega)] at ha
      rw [swTo_at ms k hm, if_neg (by rw [Hn.out]; omega)] at hb
      have hf := own_frozen HO.out
      have hO2 : Hid (∀ W : World, W = (wr.setCells g (k * 4) (ms.getD m default).vals).setCells g (m * 4) (ms.getD k default).vals → W.ownsRow base 37 4 (.slice (some ⟨g, 0, none⟩) n cap) n (mrows (swTo ms (k + 1)))) := Lib.hid (fun W e => by
        rw [e, ← swTo_succ ms (by rw [Hn.out]; exact hkm) hlt]
        exact own_mem (own_mem HO.out hls (by omega) _) (by rw [List.length_set]; exact hls) (by omega) _)
      generalize ms.getD k default = a at *
      generalize ms.getD m default = b at *
      have a0 := ha 0 _ rfl
      have a1 := ha 1 _ rfl
      have a2 := ha 2 _ rfl
      have a3 := ha 3 _ rfl
      have b0 := hb 0 _ rfl
      have b1 := hb 1 _ rfl
      have b2 := hb 2 _ rfl
      have b3 := hb 3 _ rfl
      rw [Nat.add_zero] at a0 b0
      clear ha hb hls HO
      go_wp2_with fail
      go_region
      go_wp2_with fail
      have hX : ∀ W : World, W = (wr.setCells g (k * 4) b.vals).setCells g (m * 4) a.vals → Hid (W.drew.ownsRow base 37 4 (.slice (some ⟨g, 0, none⟩) n cap) n (mrows (swTo ms (k + 1)))) ∧ Hid (But g w W.drew) := fun W e => by
        refine ⟨Lib.hid ((hO2.out W e).drew), Lib.hid ?_⟩
        subst e
        exact (HB.out.only (Only.setCells _ _ (Only.setCells _ _ ⟨rfl, rfl, rfl, rfl, fun _ _ => rfl⟩))).add ((Below.refl _ _).drew)
      obtain ⟨x1, x2⟩ := hX _ rfl
      exact ⟨⟨k + 1, m - 1, by omega, by go_num, by go_num, x1, x2⟩, by simp [intOf]; omega⟩
    · have hO := HO.out
      rw [swTo_end ms (by rw [Hn.out]; omega)] at hO
      have HO2 := Lib.hid hO
      clear hO HO
      go_wp2_with fail
      exact bodyPost_end (by simp [results, Try.results28, go_sem]) rfl ⟨rfl, HO2.out, HB.out⟩
end Go.Proofs.Ythpgdipcdllfdaa

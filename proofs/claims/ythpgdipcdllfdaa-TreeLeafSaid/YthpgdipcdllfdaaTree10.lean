/- slices.Clone of vectors; stores into a row of vectors of one's own. -/
import Derived.Test.YthpgdipcdllfdaaTree9
namespace Go.Proofs.Ythpgdipcdllfdaa
open Go.RowKit
theorem wpList_append_rows {P : Program} {ops : Array Oper} {rest : List Oper} {d s x : Tmp} {t t' : TypeId} {pos : String} {after : Array Edge} {a : Act} {w : World} {Q : Exit → Act → World → Prop} {e : TypeId} {size bytes base n m c g o : Nat} {v : Value} (xs news : List Value)
    (E : ElemOk P t e size bytes) (hs : a.eval (.tmp s) = v) (hx : a.eval (.tmp x) = .slice (some ⟨g, o, none⟩) m c) (hown : w.ownsRow base e size v n xs) (hr : w.rangeAt g o news) (hl : news.length = m * size) (h1 : ∀ u ∈ news, u.oneCell' = true)
    (h63 : n + m ≤ maxLen) (hbytes : (n + m) * bytes ≤ 140737488355328) (hbase : base ≤ w.heap.size)
    (h : ∀ v' W, W.ownsRow base e size v' (n + m) (xs ++ news) → Grew base v w W → wpList P ops Q rest (a.put (some d) v') W) :
    wpList P ops Q (⟨some d, .call { callee := .builtin .append, args := #[.tmp s, .tmp x], argTypes := #[t, t] }, t', pos, after, none⟩ :: rest) a w := by
  obtain ⟨ht, i, z, hi, hz, hsz, hby, hzs, hpos⟩ := E
  refine wpList_append_own w rfl (.tmp s) (.tmp x) t rfl base e i z size bytes ht hi hz hsz hby hzs hpos v n xs hs hown ⟨g, o, none⟩ m c news hx hl ?_ h1 h63 hbytes hbase ?_
  · intro j u hj
    rw [Addr.add_mid]
    exact hr j u hj
  · intro v' W h2 h3 _
    exact h v' W h2 ⟨h3, fun k hk => (hown.lt k hk).1, hbase⟩
theorem vrows_len (V : List Vec) : (vrows V).length = V.length * 21 := by
  induction V with
  | nil => rfl
  | cons v r ih =>
    have : vrows (v :: r) = v.vals ++ vrows r := rfl
    rw [this, List.length_append, ih, Vec.len, List.length_cons]; omega
theorem vrows_one (V : List Vec) : ∀ u ∈ vrows V, u.oneCell' = true := by
  intro u hu
  unfold vrows at hu
  simp only [List.mem_flatten, List.mem_map] at hu
  obtain ⟨_, ⟨v, _, rfl⟩, hu⟩ := hu
  exact v.one u hu
theorem vrows_range {w : World} {g : Nat} : ∀ (V : List Vec) (o : Nat), (∀ (k : Nat) (hk : k < V.length), w.rangeAt g (o + k * 21) V[k].vals) → w.rangeAt g o (vrows V)
  | [], o, _ => fun j u hj => by simp [vrows] at hj
  | v :: r, o, h => fun j u hj => by
    have e : vrows (v :: r) = v.vals ++ vrows r := rfl
    rw [e] at hj
    by_cases hlt : j < 21
    · rw [List.getElem?_append_left (by rw [Vec.len]; exact hlt)] at hj
      have := h 0 (by simp) j u hj
      simpa using this
    · rw [List.getElem?_append_right (by rw [Vec.len]; omega), Vec.len] at hj
      have := vrows_range r (o + 21) (fun k hk => by
        have := h (k + 1) (by simpa using hk)
        rw [show o + (k + 1) * 21 = o + 21 + k * 21 by omega] at this
        simpa using this) (j - 21) u hj
      rw [show o + 21 + (j - 21) = o + j by omega] at this
      exact this
/-- A row of vectors of one's own, read. -/
theorem own_vecs {w : World} {base n : Nat} {v : Value} {V : List Vec} (h : w.ownsRow base 48 21 v n (vrows V)) (hn : V.length = n) :
    ∃ A cap, v = .slice A n cap ∧ n ≤ cap ∧ (0 < n → ∃ g, A = some ⟨g, 0, none⟩ ∧ base ≤ g ∧ g < w.heap.size) ∧ SlRow w w.heap.size 21 A (V.map Vec.vals) := by
  obtain ⟨A, cap, e1, e2, e3⟩ := own_row (C := V.map Vec.vals) h (fun c hc => by obtain ⟨v, _, rfl⟩ := List.mem_map.1 hc; rfl) (by rw [List.length_map]; exact hn)
  refine ⟨A, cap, e1, e2, fun hp => ?_, fun hp => ?_⟩
  · obtain ⟨g, a, b, c, _⟩ := e3 hp; exact ⟨g, a, b, c⟩
  · rw [List.length_map, hn] at hp
    obtain ⟨g, a, b, c, d⟩ := e3 hp
    exact ⟨g, 0, a, c, fun k hk => by rw [Nat.zero_add]; exact d k hk⟩
/-- One of them is stored. -/
theorem own_store {w : World} {base n cap g : Nat} {V : List Vec} (h : w.ownsRow base 48 21 (.slice (some ⟨g, 0, none⟩) n cap) n (vrows V)) (hn : V.length = n) {i : Nat} (hi : i < n) (x : Vec) :
    ∃ L, Blk w g 48 L ∧ i * 21 + x.vals.length ≤ L.length ∧ ∀ W, Blk W g 48 (L.take (i * 21) ++ (x.vals ++ L.drop (i * 21 + x.vals.length))) → W.ownsRow base 48 21 (.slice (some ⟨g, 0, none⟩) n cap) n (vrows (V.set i x)) := by
  rcases h.2 with ⟨h0, _⟩ | ⟨g', cap', cur, e1, hb, hh, hc, hm, hs, ht⟩
  · cases h0
  · injection e1 with e1 e2 e3
    injection e1 with e1
    injection e1 with e1
    subst e1 e3
    have hlen : cur.toList.length = cap * 21 := by simpa using hs
    have hle : (i + 1) * 21 ≤ n * 21 := Nat.mul_le_mul_right _ (by omega)
    have hle2 : n * 21 ≤ cap * 21 := Nat.mul_le_mul_right _ hc
    refine ⟨cur.toList, by unfold Blk; simpa using hh, by rw [Vec.len, hlen]; omega, fun W hW => ?_⟩
    refine ⟨by rw [vrows_len, List.length_set, hn], .inr ⟨g, cap, _, rfl, hb, hW, hc, hm, ?_, ?_⟩⟩
    · simp only [List.size_toArray, List.length_append, List.length_take, List.length_drop, Vec.len, hlen]; omega
    · have hset : ∀ (V : List Vec) (i : Nat) (hi : i < V.length), vrows (V.set i x) = (vrows V).take (i * 21) ++ (x.vals ++ (vrows V).drop (i * 21 + 21)) := by
        intro V
        induction V with
        | nil => intro i hi; exact absurd hi (by simp)
        | cons v r ih =>
          intro i hi
          have e : vrows (v :: r) = v.vals ++ vrows r := rfl
          cases i with
          | zero =>
            rw [List.set_cons_zero, show vrows (x :: r) = x.vals ++ vrows r from rfl, e]
            simp only [Nat.zero_mul, List.take_zero, List.nil_append, Nat.zero_add]
            rw [List.drop_append_of_le_length (by rw [Vec.len]; exact Nat.le_refl _), List.drop_of_length_le (by rw [Vec.len]; exact Nat.le_refl _), List.nil_append]
          | succ i =>
            rw [List.set_cons_succ, show vrows (v :: r.set i x) = v.vals ++ vrows (r.set i x) from rfl, ih i (by simpa using hi), e]
            rw [show (i + 1) * 21 = v.vals.length + i * 21 by rw [Vec.len]; omega, List.take_length_add_append, show v.vals.length + i * 21 + 21 = v.vals.length + (i * 21 + 21) by omega, List.drop_length_add_append, List.append_assoc]
      have e2' : n = n := rfl
      rw [hset V i (by omega), ← ht, Vec.len]
      simp only [List.toList_toArray]
      have h1 : (cur.toList.take (n * 21)).take (i * 21) = cur.toList.take (i * 21) := by rw [List.take_take, Nat.min_eq_left (by omega)]
      have h2 : (cur.toList.take (n * 21)).drop (i * 21 + 21) = (cur.toList.drop (i * 21 + 21)).take (n * 21 - (i * 21 + 21)) := by rw [List.drop_take]
      rw [h1, h2, List.take_append, List.take_append]
      simp only [List.length_take, Vec.len, hlen]
      rw [Nat.min_eq_left (show i * 21 ≤ cap * 21 by omega), List.take_of_length_le (l := cur.toList.take (i * 21)) (by simp; omega), List.take_of_length_le (l := x.vals) (by rw [Vec.len]; omega), show n * 21 - i * 21 - 21 = n * 21 - (i * 21 + 21) by omega]
set_option maxRecDepth 100000 in
set_option maxHeartbeats 1000000 in
theorem cloneV_any (V : List Vec) (g cap n : Nat) (hn : V.length = n) (h0 : 0 < n) (h12 : n ≤ 12) (w : World) (hg : g < w.heap.size) (hr : ∀ (k : Nat) (hk : k < V.length), w.rangeAt g (k * 21) V[k].vals) :
    Calls Try.prog 50 #[.slice (some ⟨g, 0, none⟩) n cap] w (OwnVecs w V) := by
  have Hr : Hid (w.rangeAt g 0 (vrows V)) := vrows_range V 0 (fun k hk => by rw [Nat.zero_add]; exact hr k hk)
  have Hn := Lib.hid hn
  clear hr hn
  have hq := @Lib.run_eql_slice_nil Try.prog
  go_enter Try.func50, Try.ntmps50
  go_wp2_with (
    (with_reducible refine wpList_append_rows (t := 44) (v := .slice (some ⟨w.heap.size, 0, none⟩) 0 0) (base := w.heap.size) (n := 0) (m := n) (c := cap) (g := g) (o := 0) [] (vrows V) elemVec ?hs ?hx ?ow ?hr ?hl ?h1 ?h63 ?hb ?hba ?hk)
    case hs => rfl
    case hx => rfl
    case ow => exact ⟨rfl, .inr ⟨w.heap.size, 0, #[], rfl, Nat.le_refl _, heap_alloc_new w _, Nat.le_refl 0, Nat.zero_le _, rfl, rfl⟩⟩
    case hr => exact rangeAt_below Hr.out ((Below.refl _ w).alloc (Nat.le_refl _) _) hg
    case hl => rw [vrows_len, Hn.out]
    case h1 => exact vrows_one V
    case h63 => unfold maxLen; omega
    case hb => omega
    case hba => simp
    intro v' w3 hown hgrew)
  have hb := hgrew.below ((Below.refl _ w).alloc (Nat.le_refl _) _)
  rw [Nat.zero_add, List.nil_append] at hown
  exact bodyPost_ret (v := v') (by simp [results, Try.results50, go_sem]) rfl ⟨_, rfl, by rw [Hn.out]; exact hown, hb⟩
end Go.Proofs.Ythpgdipcdllfdaa

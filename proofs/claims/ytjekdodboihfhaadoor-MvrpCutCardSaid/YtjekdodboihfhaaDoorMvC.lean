/- Messages of events that are cut: reading runs out. No program in sight. -/
import Derived.Test.YtjekdodboihfhaaDoorMvM
import Derived.Test.YtjekdodboihfhaaDoorCut
set_option linter.all false
namespace Go.Proofs.YtjekdodboihfhaaDoor
theorem Cut.err {R : RS} {l : List UInt8} (h : Cut R l) (he : R.err ≠ none) : ∃ p, R.err = some (7, p) := by
  rcases h with ⟨r, hL, _⟩ | h
  · exact absurd hL.none he
  · exact h
theorem stepE_had {n k pl : Nat} {x : List Int × RS} {i e : Nat} {z : Int × Int} (h : x.2.err = some z) : (stepE n k pl x i e).2.err = some z := by
  unfold stepE
  split
  · exact h
  · split
    · show (failM x.2 15 (pl : Int)).err = _
      rw [failM_had h]; exact h
    · exact h
theorem byteM_cut {R : RS} {a b c : Int} {rest : List UInt8} (ha : evOk a = true) (hb : evOk b = true) (hc : evOk c = true) (h : Cut R (three a b c ++ rest)) :
    Cut (byteM R).2 rest ∧ ((byteM R).2.err = none → byteM R = (((a * 6 + b) * 6 + c).toNat, (byteM R).2)) := by
  obtain ⟨a0, a1⟩ := evOk_iff.1 ha
  obtain ⟨b0, b1⟩ := evOk_iff.1 hb
  obtain ⟨c0, c1⟩ := evOk_iff.1 hc
  obtain ⟨h1, h2⟩ := h.num (three_len a b c)
  have hv : beNum (three a b c) = ((a * 6 + b) * 6 + c).toNat := beNum_beBytes 1 _ (by omega)
  by_cases he : (numM R 1).2.err = none
  · have hn := h2 he
    rw [hv] at hn
    have hb : byteM R = (((a * 6 + b) * 6 + c).toNat, (numM R 1).2) := by
      unfold byteM
      rw [hn]
      rw [if_neg (by omega)]
    rw [hb]
    exact ⟨h1, fun _ => rfl⟩
  · obtain ⟨p, hp⟩ := h1.err he
    have hb : (byteM R).2.err = some (7, p) := by
      unfold byteM
      simp only []
      split
      · rw [failM_had hp]; exact hp
      · exact hp
    exact ⟨.inr ⟨p, hb⟩, fun h => by rw [hb] at h; cases h⟩
theorem grp_had {n k : Nat} {R : RS} {acc : List Int} {z : Int × Int} (h : (byteM R).2.err = some z) : (grpM n k R acc).2.err = some z := by
  unfold grpM
  exact stepE_had (stepE_had (stepE_had h))
theorem evM_had {f n k : Nat} {R : RS} {acc : List Int} (h : R.err ≠ none) : evM f n k R acc = (acc, R) := by
  cases f with
  | zero => rfl
  | succ f => unfold evM; rw [if_neg (fun x => h x.2)]
/-- One group of a cut text, then the rest. -/
theorem evM_step_cut {f n k : Nat} {R : RS} {acc : List Int} {a b c : Int} {rest : List UInt8} (ha : evOk a = true) (hb : evOk b = true) (hc : evOk c = true) (hk : k < n) (h : Cut R (three a b c ++ rest))
    {G : List Int × RS → Prop} (hcut : ∀ x : List Int × RS, (∃ p, x.2.err = some (7, p)) → G x)
    (hgo : ∀ R', R'.err = none → Cut R' rest → byteM R = (((a * 6 + b) * 6 + c).toNat, R') → G (evM f n (k + 3) (grpM n k R acc).2 (grpM n k R acc).1)) : G (evM (f + 1) n k R acc) := by
  by_cases he : R.err = none
  · have e1 : evM (f + 1) n k R acc = evM f n (k + 3) (grpM n k R acc).2 (grpM n k R acc).1 := by
      conv => lhs; unfold evM
      rw [if_pos ⟨hk, he⟩]
    rw [e1]
    obtain ⟨h1, h2⟩ := byteM_cut ha hb hc h
    by_cases hbe : (byteM R).2.err = none
    · exact hgo _ hbe h1 (h2 hbe)
    · obtain ⟨p, hp⟩ := h1.err hbe
      have hg := grp_had (n := n) (k := k) (acc := acc) hp
      rw [evM_had (by rw [hg]; simp)]
      exact hcut _ ⟨p, hg⟩
  · obtain ⟨p, hp⟩ := h.err he
    rw [evM_had he]
    exact hcut _ ⟨p, hp⟩
theorem evM_cut : ∀ (es : List Int) (f n k : Nat) (R : RS) (acc : List Int) (rest : List UInt8), (∀ e ∈ es, evOk e = true) → n = k + es.length → es.length ≤ 3 * f → Cut R (packE es ++ rest) →
    Cut (evM f n k R acc).2 rest ∧ ((evM f n k R acc).2.err = none → (evM f n k R acc).1 = acc ++ es)
  | [], f, n, k, R, acc, rest, _, hn, _, h => by
    rw [evM_end (by simp at hn; omega)]
    exact ⟨by simpa [packE] using h, fun _ => by simp⟩
  | [a], f + 1, n, k, R, acc, rest, ho, hn, hf, h => by
    have oa := ho a (by simp)
    obtain ⟨a0, a1⟩ := evOk_iff.1 oa
    have hn : n = k + 1 := by simpa using hn
    refine evM_step_cut (b := 0) (c := 0) oa rfl rfl (by omega) h (G := fun x => Cut x.2 rest ∧ (x.2.err = none → x.1 = acc ++ [a])) (fun x hx => ⟨.inr hx, fun he => by obtain ⟨p, hp⟩ := hx; rw [hp] at he; cases he⟩) (fun R' he hc hb => ?_)
    rw [evM_end (by omega)]
    unfold grpM
    rw [hb]
    simp only []
    rw [stepE_in (i := 0) (by omega), show ((a * 6 + 0) * 6 + 0).toNat / 6 % 6 = 0 by omega, show ((a * 6 + 0) * 6 + 0).toNat % 6 = 0 by omega, stepE_out (i := 1) (by omega), stepE_out (i := 2) (by omega)]
    simp only []
    rw [show (((((a * 6 + 0) * 6 + 0).toNat / 36 : Nat)) : Int) = a by omega]
    exact ⟨hc, fun _ => rfl⟩
  | [a, b], f + 1, n, k, R, acc, rest, ho, hn, hf, h => by
    have oa := ho a (by simp)
    have ob := ho b (by simp)
    obtain ⟨a0, a1⟩ := evOk_iff.1 oa
    obtain ⟨b0, b1⟩ := evOk_iff.1 ob
    have hn : n = k + 2 := by simpa using hn
    refine evM_step_cut (c := 0) oa ob rfl (by omega) h (G := fun x => Cut x.2 rest ∧ (x.2.err = none → x.1 = acc ++ [a, b])) (fun x hx => ⟨.inr hx, fun he => by obtain ⟨p, hp⟩ := hx; rw [hp] at he; cases he⟩) (fun R' he hc hb => ?_)
    rw [evM_end (by omega)]
    unfold grpM
    rw [hb]
    simp only []
    rw [stepE_in (i := 0) (by omega), stepE_in (i := 1) (by omega), show ((a * 6 + b) * 6 + 0).toNat % 6 = 0 by omega, stepE_out (i := 2) (by omega)]
    simp only [List.append_assoc, List.singleton_append]
    rw [show (((((a * 6 + b) * 6 + 0).toNat / 36 : Nat)) : Int) = a by omega, show (((((a * 6 + b) * 6 + 0).toNat / 6 % 6 : Nat)) : Int) = b by omega]
    exact ⟨hc, fun _ => rfl⟩
  | a :: b :: c :: r, f + 1, n, k, R, acc, rest, ho, hn, hf, h => by
    have oa := ho a (by simp)
    have ob := ho b (by simp)
    have oc := ho c (by simp)
    have h' : Cut R (three a b c ++ (packE r ++ rest)) := by simpa [packE, List.append_assoc] using h
    obtain ⟨a0, a1⟩ := evOk_iff.1 oa
    obtain ⟨b0, b1⟩ := evOk_iff.1 ob
    obtain ⟨c0, c1⟩ := evOk_iff.1 oc
    simp only [List.length_cons] at hn hf
    refine evM_step_cut oa ob oc (by omega) h' (G := fun x => Cut x.2 rest ∧ (x.2.err = none → x.1 = acc ++ (a :: b :: c :: r))) (fun x hx => ⟨.inr hx, fun he => by obtain ⟨p, hp⟩ := hx; rw [hp] at he; cases he⟩) (fun R' he hc hb => ?_)
    have hg : grpM n k R acc = (acc ++ [a, b, c], R') := by
      unfold grpM
      rw [hb]
      simp only []
      rw [stepE_in (by omega), stepE_in (by omega), stepE_in (by omega)]
      simp only [List.append_assoc, List.singleton_append]
      rw [show (((((a * 6 + b) * 6 + c).toNat / 36 : Nat)) : Int) = a by omega, show (((((a * 6 + b) * 6 + c).toNat / 6 % 6 : Nat)) : Int) = b by omega, show (((((a * 6 + b) * 6 + c).toNat % 6 : Nat)) : Int) = c by omega]
      rfl
    rw [hg]
    have ih := evM_cut r f n (k + 3) R' (acc ++ [a, b, c]) rest (fun e he => ho e (by simp [he])) (by omega) (by omega) hc
    exact ⟨ih.1, fun h => by rw [ih.2 h]; simp⟩
  | _ :: _, 0, _, _, _, _, _, _, _, hf, _ => by simp at hf
theorem attrM_cut {a : Av} {R : RS} {rest : List UInt8} (ha : a.okB = true) (h : Cut R (a.bytes ++ rest)) :
    Cut (attrM R).2 rest ∧ ((attrM R).2.err = none → (attrM R).1 = some a) ∧ ((attrM R).2.err ≠ none → (attrM R).1 = none) := by
  obtain ⟨h1, h2, h3, h4, h5, h6⟩ := Av.ok_iff.1 ha
  have g0 : Cut R (beBytes (a.evs.length + if a.all = true then 8192 else 0) 2 ++ (beBytes a.first.toNat 2 ++ (packE a.evs ++ rest))) := by simpa [Av.bytes, List.append_assoc] using h
  have hlt : a.evs.length + (if a.all = true then 8192 else 0) < 256 ^ 2 := by split <;> omega
  obtain ⟨g1, v1⟩ := g0.num (beBytes_len _ 2)
  by_cases he1 : (numM R 2).2.err = none
  · have v1 := v1 he1
    rw [beNum_beBytes 2 _ hlt] at v1
    obtain ⟨g2, v2⟩ := g1.num (beBytes_len _ 2)
    obtain ⟨g3, v3⟩ := evM_cut a.evs 134 a.evs.length 0 (numM (numM R 2).2 2).2 [] rest h6 (by omega) (by omega) g2
    have hd : (a.evs.length + (if a.all = true then 8192 else 0)) / 8192 = if a.all = true then 1 else 0 := by split <;> omega
    have hm : (a.evs.length + (if a.all = true then 8192 else 0)) % 8192 = a.evs.length := by split <;> omega
    have hz : a.evs.length + (if a.all = true then 8192 else 0) ≠ 0 := by
      intro h0
      have : a.evs.length = 0 := by omega
      rw [if_pos (h1 this)] at h0
      omega
    by_cases he3 : (evM 134 a.evs.length 0 (numM (numM R 2).2 2).2 []).2.err = none
    · have he2 : (numM (numM R 2).2 2).2.err = none := Classical.byContradiction fun hne => by
        rw [evM_had hne] at he3
        exact hne he3
      have v2 := v2 he2
      rw [beNum_beBytes 2 _ (show a.first.toNat < 256 ^ 2 by omega)] at v2
      have v3 := v3 he3
      rw [List.nil_append] at v3
      have hav : (⟨decide ((if a.all = true then 1 else 0) = 1), ((a.first.toNat : Nat) : Int), a.evs⟩ : Av) = a := by
        obtain ⟨al, fi, es⟩ := a
        simp only [Av.mk.injEq, and_true] at *
        refine ⟨?_, by omega⟩
        cases al <;> simp
      have e : attrM R = (some a, (evM 134 a.evs.length 0 (numM (numM R 2).2 2).2 []).2) := by
        unfold attrM
        rw [v1, hd, hm, if_neg (by rintro (x | x); exact x he1; exact hz x), if_neg (by rintro (x | x); (split at x <;> omega); omega)]
        simp only []
        rw [if_neg (fun x => x he3), v2, v3, hav, if_pos ha]
      rw [e]
      exact ⟨g3, fun _ => rfl, fun hne => absurd he3 hne⟩
    · have e : attrM R = (none, (evM 134 a.evs.length 0 (numM (numM R 2).2 2).2 []).2) := by
        unfold attrM
        rw [v1, hd, hm, if_neg (by rintro (x | x); exact x he1; exact hz x), if_neg (by rintro (x | x); (split at x <;> omega); omega)]
        simp only []
        rw [if_pos he3]
      rw [e]
      exact ⟨g3, fun h => absurd h he3, fun _ => rfl⟩
  · obtain ⟨p, hp⟩ := g1.err he1
    have e : attrM R = (none, (numM R 2).2) := by
      unfold attrM
      rw [if_pos (.inl he1)]
    rw [e]
    exact ⟨.inr ⟨p, hp⟩, fun h => absurd h he1, fun _ => rfl⟩
theorem attrM_end_cut {R : RS} {rest : List UInt8} (h : Cut R ([0, 0] ++ rest)) : (attrM R).1 = none ∧ Cut (attrM R).2 rest := by
  obtain ⟨g1, v1⟩ := h.num (c := [0, 0]) (n := 2) rfl
  have e : attrM R = (none, (numM R 2).2) := by
    unfold attrM
    by_cases he : (numM R 2).2.err = none
    · have v := v1 he
      rw [if_pos (.inr (by rw [v]; rfl))]
    · rw [if_pos (.inl he)]
  rw [e]
  exact ⟨rfl, g1⟩
theorem attrsM_cut : ∀ (m : List Av) (f p : Nat) (R : RS) (l : List Av) (rest : List UInt8), (∀ a ∈ m, a.okB = true) → m.length < f → (l ++ m).length ≤ 40 → Cut R (mvBody m ++ ([0, 0] ++ rest)) → Cut (attrsM f p R l).2 rest
  | [], f + 1, p, R, l, rest, _, _, _, h => by
    have h : Cut R ([0, 0] ++ rest) := by simpa [mvBody] using h
    obtain ⟨e1, e2⟩ := attrM_end_cut h
    unfold attrsM
    cases hA : attrM R with
    | mk o R' =>
      rw [hA] at e1 e2
      simp only at e1 e2
      subst e1
      exact e2
  | a :: m, f + 1, p, R, l, rest, ho, hf, hl, h => by
    have h0 : Cut R (a.bytes ++ (mvBody m ++ ([0, 0] ++ rest))) := by simpa [mvBody, List.append_assoc] using h
    obtain ⟨e1, e2, e3⟩ := attrM_cut (ho a (by simp)) h0
    simp only [List.length_append, List.length_cons] at hl hf
    unfold attrsM
    cases hA : attrM R with
    | mk o R' =>
      rw [hA] at e1 e2 e3
      simp only at e1 e2 e3
      by_cases he : R'.err = none
      · have e2 := e2 he
        subst e2
        simp only []
        rw [if_neg (by simp; omega)]
        exact attrsM_cut m f p R' (l ++ [a]) rest (fun x hx => ho x (by simp [hx])) (by omega) (by simp; omega) e1
      · have e3 := e3 he
        subst e3
        exact .inr (e1.err he)
theorem mvM_had' {f : Nat} {R : RS} {l : List Av} (h : R.err ≠ none) : mvM f R l = (none, R) := by
  obtain ⟨x, hx⟩ := Option.ne_none_iff_exists'.1 h
  cases f with
  | zero => rfl
  | succ f => unfold mvM; rw [hx]
theorem mvM_end_cut {R : RS} {l : List Av} {f : Nat} (h : Cut R [0, 0]) : ∃ R' p, mvM (f + 1) R l = (none, R') ∧ R'.err = some (7, p) := by
  by_cases he : R.err = none
  · have h0 : Cut R ([0] ++ [0]) := h
    obtain ⟨g1, v1⟩ := h0.num (c := [0]) (n := 1) rfl
    have g1' : Cut (numM R 1).2 ([0] ++ []) := g1
    obtain ⟨g2, v2⟩ := g1'.num (c := [0]) (n := 1) rfl
    obtain ⟨p, hp⟩ := g2.nil
    refine ⟨_, p, ?_, hp⟩
    unfold mvM
    rw [he]
    simp only []
    rw [if_pos (by rw [hp]; simp)]
  · obtain ⟨p, hp⟩ := h.err he
    exact ⟨R, p, mvM_had' he, hp⟩
/-- No shorter beginning is read: it is missed. -/
theorem readMv_cut {l : List Av} (ho : ∀ a ∈ l, a.okB = true) (hl : l.length ≤ 40) (hs : (mvBytes l).length ≤ 4611686018427387904) (k : Nat) (hk : k < (mvBytes l).length) :
    ∃ R p, readMvM ((mvBytes l).take k) = (none, R) ∧ R.err = some (7, p) := by
  have g := Cut.new (mvBytes l) k 0 hk (by omega)
  have hkl : ((mvBytes l).take k).length = k := by rw [List.length_take]; omega
  unfold readMvM
  have first : ∀ (X : List UInt8), mvBytes l = [0] ++ X → Cut (numM (newM ((mvBytes l).take k) 0) 1).2 X ∧ (if (numM (newM ((mvBytes l).take k) 0) 1).1 ≠ 0 then failM (numM (newM ((mvBytes l).take k) 0) 1).2 3 0 else (numM (newM ((mvBytes l).take k) 0) 1).2) = (numM (newM ((mvBytes l).take k) 0) 1).2 := fun X hX => by
    have g' : Cut (newM ((mvBytes l).take k) 0) ([0] ++ X) := by have := g; rw [show (mvBytes l : List UInt8) = [0] ++ X from hX] at this ⊢; exact this
    obtain ⟨g1, v1⟩ := g'.num (c := [0]) (n := 1) rfl
    refine ⟨g1, ?_⟩
    split
    · rename_i hne
      by_cases he : (numM (newM ((mvBytes l).take k) 0) 1).2.err = none
      · exact absurd (v1 he) hne
      · obtain ⟨p, hp⟩ := g1.err he
        exact failM_had hp 3 0
    · rfl
  by_cases h0 : l.length = 0
  · have hX : mvBytes l = [0] ++ [0, 0] := by unfold mvBytes; rw [if_pos h0]; rfl
    obtain ⟨g1, e1⟩ := first _ hX
    rw [e1]
    exact mvM_end_cut g1
  · have hX : mvBytes l = [0] ++ ([1] ++ ([2] ++ (mvBody l ++ ([0, 0] ++ [0, 0])))) := by unfold mvBytes; rw [if_neg h0]; simp
    obtain ⟨g1, e1⟩ := first _ hX
    rw [e1, hkl]
    have hk0 : (numM (newM ((mvBytes l).take k) 0) 1).2.err = none → 1 ≤ k := fun h => by
      obtain ⟨c, rest, k1, k2, _⟩ := numM_back (R := newM ((mvBytes l).take k) 0) (n := 1) ⟨Nat.zero_le _, by show 0 + ((mvBytes l).take k).length ≤ _; omega⟩ h
      have := k2.len
      rw [List.length_append, k1] at this
      have h2 : (newM ((mvBytes l).take k) 0).s.length = k := hkl
      have h3 : (newM ((mvBytes l).take k) 0).at_ = 0 := rfl
      omega
    generalize (numM (newM ((mvBytes l).take k) 0) 1).2 = R at *
    by_cases he : R.err = none
    · obtain ⟨g2, v2⟩ := g1.num (c := [1]) (n := 1) rfl
      obtain ⟨g3, v3⟩ := g2.num (c := [2]) (n := 1) rfl
      by_cases he3 : (numM (numM R 1).2 1).2.err = none
      · have v2' := v2 (Classical.byContradiction fun hne => by
          obtain ⟨p, hp⟩ := g2.err hne
          have : numM (numM R 1).2 1 = (0, (numM R 1).2) := by unfold numM at hp ⊢; rw [bytesM_had hp]; rfl
          rw [this] at he3
          exact hne he3)
        have v3' := v3 he3
        have g4 := attrsM_cut l 43 R.place (numM (numM R 1).2 1).2 [] [0, 0] ho (by omega) (by simpa using hl) g3
        obtain ⟨j, hj⟩ : ∃ j, k = j + 1 := ⟨k - 1, by have := hk0 he; omega⟩
        obtain ⟨R', p, e2, e3⟩ := mvM_end_cut (f := j) (l := (attrsM 43 R.place (numM (numM R 1).2 1).2 []).1) g4
        refine ⟨R', p, ?_, e3⟩
        rw [← e2, hj]
        conv => lhs; unfold mvM
        rw [he]
        simp only []
        rw [if_neg (fun x => x he3), v2', v3', if_neg (by decide), if_neg (by decide), if_neg (by decide)]
      · obtain ⟨p, hp⟩ := g3.err he3
        refine ⟨_, p, ?_, hp⟩
        unfold mvM
        rw [he]
        simp only []
        rw [if_pos he3]
    · obtain ⟨p, hp⟩ := g1.err he
      exact ⟨R, p, mvM_had' he, hp⟩
end Go.Proofs.YtjekdodboihfhaaDoor

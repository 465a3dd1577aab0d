/- Types, lengths and texts, as plain data: what is written, what is read. No program in sight. -/
import Derived.Test.YteibhcocldihbaaDoorRsL
set_option linter.all false
namespace Go.Proofs.YteibhcocldihbaaDoor
structure Tv where
  typ : Int
  text : List UInt8
deriving DecidableEq, Inhabited
def Tv.okB (t : Tv) : Bool := decide (1 ≤ t.typ) && (decide (t.typ ≤ 127) && decide (t.text.length ≤ 511))
theorem Tv.ok_iff {t : Tv} : t.okB = true ↔ 1 ≤ t.typ ∧ t.typ ≤ 127 ∧ t.text.length ≤ 511 := by simp [Tv.okB]
/-- One record as bytes. -/
def Tv.bytes (t : Tv) : List UInt8 := beBytes (t.typ.toNat * 512 + t.text.length) 2 ++ t.text
def tvBody (l : List Tv) : List UInt8 := l.flatMap Tv.bytes
def tvBytes (l : List Tv) : List UInt8 := tvBody l ++ [0, 0]
theorem tvBody_snoc (l : List Tv) (t : Tv) : tvBody (l ++ [t]) = tvBody l ++ t.bytes := by simp [tvBody]
theorem tvBody_append (l m : List Tv) : tvBody (l ++ m) = tvBody l ++ tvBody m := by simp [tvBody]
theorem Tv.bytes_len (t : Tv) : t.bytes.length = 2 + t.text.length := by simp [Tv.bytes, beBytes_len]
/-- Where each one begins. -/
def tvAts : Nat → List Tv → List Nat
  | _, [] => []
  | k, t :: l => k :: tvAts (k + 2 + t.text.length) l
theorem tvAts_len : ∀ (l : List Tv) (k : Nat), (tvAts k l).length = l.length
  | [], _ => rfl
  | t :: l, k => by simp [tvAts, tvAts_len l]
theorem tvAts_snoc : ∀ (l : List Tv) (t : Tv) (k : Nat), tvAts k (l ++ [t]) = tvAts k l ++ [k + (tvBody l).length]
  | [], t, k => by simp [tvAts, tvBody]
  | x :: l, t, k => by
    simp only [List.cons_append, tvAts, tvAts_snoc l t, tvBody, List.flatMap_cons, List.length_append, Tv.bytes_len]
    congr 3; omega
theorem tvAts_get : ∀ (l : List Tv) (k i : Nat) (h : i < l.length), (tvAts k l)[i]? = some (k + (tvBody (l.take i)).length)
  | t :: l, k, 0, _ => by simp [tvAts, tvBody]
  | t :: l, k, i + 1, h => by
    simp only [tvAts, List.getElem?_cons_succ, List.take_succ_cons]
    rw [tvAts_get l _ i (by simpa using h)]
    simp only [tvBody, List.flatMap_cons, List.length_append, Tv.bytes_len]
    congr 1; omega
/-- The loop that reads. -/
def tlvM : Nat → RS → List Tv → List Nat → Option (List Tv × List Nat × Nat) × RS
  | 0, R, _, _ => (none, R)
  | f + 1, R, l, ats => match R.err with
    | some _ => (none, R)
    | none => if (numM R 2).2.err = none ∧ (numM R 2).1 / 512 = 0 then
        let R2 := if (numM R 2).1 ≠ 0 then failM (numM R 2).2 3 (R.place : Int) else (numM R 2).2
        if (zerosM R2).1 = true then (some (l, ats, R.place), (zerosM R2).2) else (none, (zerosM R2).2)
      else tlvM f (bytesM (numM R 2).2 ((numM R 2).1 % 512)).2 (l ++ [⟨(((numM R 2).1 / 512 : Nat) : Int), (bytesM (numM R 2).2 ((numM R 2).1 % 512)).1⟩]) (ats ++ [R.place])
def readTlvM (s : List UInt8) : Option (List Tv × List Nat × Nat) × RS := tlvM (s.length + 1) (newM s 0) [] []
theorem tlvM_had {R : RS} {x : Int × Int} (h : R.err = some x) (f : Nat) (l : List Tv) (ats : List Nat) : tlvM f R l ats = (none, R) := by
  cases f with
  | zero => rfl
  | succ f => unfold tlvM; rw [h]
/-- What is read, told of a text that is known. -/
theorem tlvM_left : ∀ (m : List Tv) (f : Nat) (R : RS) (l : List Tv) (ats : List Nat) (pad : List UInt8), (∀ t ∈ m, t.okB = true) → m.length < f → R.Left (tvBody m ++ ([0, 0] ++ pad)) → (∀ c ∈ pad, c = 0) →
    ∃ R', tlvM f R l ats = (some (l ++ m, ats ++ tvAts R.place m, R.place + (tvBody m).length), R') ∧ R'.err = none
  | [], f + 1, R, l, ats, pad, _, _, hL, hz => by
    have h0 : R.Left ([0, 0] ++ pad) := by simpa [tvBody] using hL
    have hn : numM R 2 = (0, R.skip 2) := numM_left h0 rfl
    have h1 := h0.skip (n := 2) rfl
    have hz' := zerosM_left h1 hz
    refine ⟨{ R.skip 2 with at_ := (R.skip 2).s.length }, ?_, h1.none⟩
    unfold tlvM
    rw [h0.none]
    simp only [hn, h1.none, Nat.zero_div, and_self, if_true, ne_eq, not_true_eq_false, if_false, hz']
    simp [tvAts, tvBody, h1.none]
  | t :: m, f + 1, R, l, ats, pad, hm, hf, hL, hz => by
    obtain ⟨a, b, c⟩ := Tv.ok_iff.1 (hm t (List.mem_cons_self ..))
    have h0 : R.Left (beBytes (t.typ.toNat * 512 + t.text.length) 2 ++ (t.text ++ (tvBody m ++ ([0, 0] ++ pad)))) := by
      simpa [tvBody, Tv.bytes, List.append_assoc] using hL
    have hn : numM R 2 = (t.typ.toNat * 512 + t.text.length, R.skip 2) := numM_be h0 (by omega)
    have h1 := h0.skip (beBytes_len _ 2)
    have e1 : (t.typ.toNat * 512 + t.text.length) / 512 = t.typ.toNat := by omega
    have e2 : (t.typ.toNat * 512 + t.text.length) % 512 = t.text.length := by omega
    have hb := bytesM_left h1 (n := t.text.length) rfl
    have h2 := h1.skip (n := t.text.length) rfl
    obtain ⟨R', hR, hn'⟩ := tlvM_left m f ((R.skip 2).skip t.text.length) (l ++ [t]) (ats ++ [R.place]) pad (fun x hx => hm x (List.mem_cons_of_mem _ hx)) (by simpa using hf) h2 hz
    refine ⟨R', ?_, hn'⟩
    unfold tlvM
    rw [h0.none]
    simp only [hn, e1, e2, hb]
    rw [if_neg (by omega), show ((t.typ.toNat : Nat) : Int) = t.typ by omega, hR]
    have e3 : ((R.skip 2).skip t.text.length).place = R.place + 2 + t.text.length := by simp [RS.place, RS.skip]; omega
    simp only [e3, List.append_assoc, List.singleton_append, tvAts, tvBody, List.flatMap_cons, List.length_append, Tv.bytes_len]
    refine Prod.ext (congrArg some (Prod.ext rfl (Prod.ext rfl ?_))) rfl
    simp only []
    omega
/-- What was read stood there. -/
theorem tlvM_back : ∀ (f : Nat) (R R' : RS) (l : List Tv) (ats : List Nat) (out : List Tv) (oa : List Nat) (e : Nat), R.ok → tlvM f R l ats = (some (out, oa, e), R') →
    ∃ m pad, out = l ++ m ∧ oa = ats ++ tvAts R.place m ∧ e = R.place + (tvBody m).length ∧ R.Left (tvBody m ++ ([0, 0] ++ pad)) ∧ ∀ t ∈ m, t.okB = true
  | 0, R, R', l, ats, out, oa, e, _, h => by simp [tlvM] at h
  | f + 1, R, R', l, ats, out, oa, e, hok, h => by
    unfold tlvM at h
    cases he : R.err with
    | some x => rw [he] at h; simp at h
    | none =>
      rw [he] at h
      simp only [] at h
      split at h
      · rename_i hc
        obtain ⟨c, rest, h1, h2, h3, h4⟩ := numM_back hok hc.1
        rw [h3] at h hc
        simp only [] at h hc
        by_cases hz : beNum c = 0
        · simp only [hz, ne_eq, not_true_eq_false, if_false] at h
          split at h
          · rename_i hz1
            injection h with h5 h6
            injection h5 with h5
            injection h5 with h7 h8
            injection h8 with h8 h9
            obtain ⟨pad, hp, hp0, _⟩ := zerosM_back h4.ok hz1
            have hr : rest = pad := h4.left.symm.trans hp.left
            have hc0 : c = [0, 0] := by
              have : beNum c = beNum [0, 0] := by rw [hz]; rfl
              exact beNum_inj _ _ (by rw [h1]; rfl) this
            subst hr hc0
            refine ⟨[], rest, by simp [h7], by simp [tvAts, h8], by simp [tvBody, h9], by simpa [tvBody] using h2, by simp⟩
          · simp at h
        · simp only [ne_eq, hz, not_false_eq_true, if_true] at h
          split at h
          · rename_i hz1
            have := zerosM_back (h4.ok.fail 3 _) hz1
            obtain ⟨rest', hL, _⟩ := this
            exact (failM_back hL.none).elim
          · simp at h
      · rename_i hc
        by_cases hn : (numM R 2).2.err = none
        · obtain ⟨c, rest, h1, h2, h3, h4⟩ := numM_back hok hn
          rw [h3] at h hc
          simp only [] at h hc
          have hlt : beNum c < 65536 := by have := beNum_lt c; rw [h1] at this; omega
          by_cases hb : (bytesM (R.skip 2) (beNum c % 512)).2.err = none
          · obtain ⟨x, rest', g1, g2, g3, g4⟩ := bytesM_back h4.ok hb
            rw [g3] at h
            simp only [] at h
            obtain ⟨m, pad, k1, k2, k3, k4, k5⟩ := tlvM_back f _ R' _ _ out oa e g4.ok h
            have hr : rest = x ++ rest' := h4.left.symm.trans g2.left
            have hr' : rest' = tvBody m ++ ([0, 0] ++ pad) := g4.left.symm.trans k4.left
            have ht : (⟨((beNum c / 512 : Nat) : Int), x⟩ : Tv).okB = true := by
              rw [Tv.ok_iff]
              simp only []
              have hc' : ¬ beNum c / 512 = 0 := fun e => hc ⟨h4.none, e⟩
              omega
            have hbe : beBytes (beNum c / 512 * 512 + x.length) 2 = c := by
              rw [g1, show beNum c / 512 * 512 + beNum c % 512 = beNum c by omega, ← h1]
              exact beBytes_beNum c
            have hby : (⟨((beNum c / 512 : Nat) : Int), x⟩ : Tv).bytes = c ++ x := by
              unfold Tv.bytes
              simp only [Int.toNat_natCast]
              rw [hbe]
            have e3 : ((R.skip 2).skip (beNum c % 512)).place = R.place + 2 + x.length := by simp [RS.place, RS.skip, g1]; omega
            refine ⟨⟨((beNum c / 512 : Nat) : Int), x⟩ :: m, pad, by simp [k1], ?_, ?_, ?_, ?_⟩
            · rw [k2, e3]; simp [tvAts]
            · rw [k3, e3]; simp only [tvBody, List.flatMap_cons, List.length_append, Tv.bytes_len]; omega
            · have e4 : tvBody (⟨((beNum c / 512 : Nat) : Int), x⟩ :: m) = (c ++ x) ++ tvBody m := by simp only [tvBody, List.flatMap_cons, hby]
              rw [e4, List.append_assoc, List.append_assoc, ← hr', ← hr]
              exact h2
            · intro t htm
              rcases List.mem_cons.1 htm with rfl | htm
              · exact ht
              · exact k5 t htm
          · obtain ⟨y, hy⟩ := Option.ne_none_iff_exists'.1 hb
            rw [tlvM_had hy] at h; simp at h
        · obtain ⟨y, hy⟩ := Option.ne_none_iff_exists'.1 hn
          have hb : (bytesM (numM R 2).2 ((numM R 2).1 % 512)).2.err = some y := by rw [bytesM_had hy]; exact hy
          rw [tlvM_had hb] at h; simp at h
end Go.Proofs.YteibhcocldihbaaDoor

/- BPDUs that are cut, and that are read back, as plain data. No program in sight. -/
import Derived.Test.YteibhcocldihbaaDoorBpduM2
import Derived.Test.YteibhcocldihbaaDoorCut
set_option linter.all false
namespace Go.Proofs.YteibhcocldihbaaDoor
theorem Cut.br {R : RS} {b : Br} {rest : List UInt8} (h : Cut R (b.bytes ++ rest)) : Cut (readBrM R).2 rest := by
  have g0 : Cut R (beBytes (b.prio + b.ext).toNat 2 ++ (b.ad.list ++ rest)) := by simpa [Br.bytes, List.append_assoc] using h
  exact ((g0.num (beBytes_len _ 2)).1.bytes (Ad.len _)).1
theorem Cut.pt {R : RS} {p : Pt} {rest : List UInt8} (hp : p.okB = true) (h : Cut R (p.bytes ++ rest)) : Cut (readPtM R).2 rest := by
  obtain ⟨h1, h2, h3, h4, h5⟩ := Pt.ok_iff.1 hp
  have g0 : Cut R (beBytes (p.prio * 256 + p.no).toNat 2 ++ rest) := h
  obtain ⟨g1, g2⟩ := g0.num (beBytes_len _ 2)
  unfold readPtM
  simp only []
  split
  · rename_i hc
    have := g2 hc.1
    rw [this, beNum_beBytes 2 _ (by omega)] at hc
    omega
  · exact g1
theorem Cut.body {R : RS} {b : Bp} {rest : List UInt8} (hb : b.Rest) (kind : Int) (h : Cut R (b.body ++ rest)) : Cut (readBodyM R kind).2 rest := by
  have g0 : Cut R (beBytes b.fl.byte 1 ++ (b.root.bytes ++ (beBytes b.cost.toNat 4 ++ (b.sender.bytes ++ (b.port.bytes ++ (beBytes b.age.toNat 2 ++ (beBytes b.max.toNat 2 ++ (beBytes b.hello.toNat 2 ++ (beBytes b.wait.toNat 2 ++ rest))))))))) := by
    simpa [Bp.body, List.append_assoc] using h
  exact (((((((((g0.num (beBytes_len _ 1)).1.br).num (beBytes_len _ 4)).1.br).pt hb.port).num (beBytes_len _ 2)).1.num (beBytes_len _ 2)).1.num (beBytes_len _ 2)).1.num (beBytes_len _ 2)).1
theorem kindM_err {h : List UInt8 × RS} (he : h.2.err ≠ none) : kindM h = 0 := by unfold kindM; rw [if_neg he]
theorem kindM_head {h : List UInt8 × RS} (he : h.2.err = none) (k : Int) (hk : k = 1 ∨ k = 2 ∨ k = 3) (h1 : h.1 = headB k) : kindM h = k := by
  unfold kindM
  rw [if_pos he, h1]
  rcases hk with rfl | rfl | rfl <;> rfl
/-- No shorter beginning is read. -/
theorem readBp_cut (b : Bp) (hb : b.okB = true) (k : Nat) (hk : k < b.bytes.length) : ∃ p, (readBpM (b.bytes.take k)).2.err = some (7, p) := by
  have key : ∀ (kind : Int) (l : List UInt8), b.bytes = headB kind ++ l → kind = 1 ∨ kind = 2 ∨ kind = 3 → (∀ R, R.err = none → Cut R l → bytesM (newM (b.bytes.take k) 0) 4 = (headB kind, R) → ∃ p, (readBpM (b.bytes.take k)).2.err = some (7, p)) → ∃ p, (readBpM (b.bytes.take k)).2.err = some (7, p) := by
    intro kind l hl hkd hc
    have hlen : l.length ≤ 32 → b.bytes.length ≤ 36 := by intro h; rw [hl, List.length_append, headB_len]; omega
    have g0 : Cut (newM (b.bytes.take k) 0) (headB kind ++ l) := by
      rw [← hl]
      refine Cut.new _ k 0 hk ?_
      unfold Bp.bytes
      split
      · rw [headB_len]; omega
      · split <;> simp only [List.length_append, headB_len, Bp.body_len, List.length_cons, List.length_nil] <;> omega
    obtain ⟨g1, g2⟩ := g0.bytes (headB_len kind)
    by_cases he : (bytesM (newM (b.bytes.take k) 0) 4).2.err = none
    · exact hc _ he g1 (by rw [← g2 he])
    · rcases g1 with ⟨r, hL, _⟩ | ⟨p, hp⟩
      · exact absurd hL.none he
      · refine ⟨p, ?_⟩
        unfold readBpM
        simp only [kindM_err he]
        rw [if_neg (by decide), if_neg (by decide), if_pos trivial, failM_had hp]
        exact hp
  unfold Bp.okB at hb
  split at hb
  · rename_i h2
    refine key 2 [] (by unfold Bp.bytes; rw [if_pos h2, List.append_nil]) (by simp) (fun R he hc _ => ?_)
    obtain ⟨p, hp⟩ := hc.nil
    rw [he] at hp; cases hp
  · rename_i h2
    split at hb
    · rename_i h1
      simp only [Bool.and_eq_true, decide_eq_true_eq] at hb
      refine key 1 (b.body ++ []) (by unfold Bp.bytes; rw [if_neg h2, if_pos h1, List.append_nil]) (by simp) (fun R he hc e => ?_)
      obtain ⟨p, hp⟩ := (Cut.body (Bp.rest_iff.1 hb.2) 1 hc).nil
      refine ⟨p, ?_⟩
      unfold readBpM
      simp only [e, kindM_head (h := (headB 1, R)) he 1 (by simp) rfl]
      rw [if_pos trivial]
      exact hp
    · rename_i h1
      split at hb
      · rename_i h3
        simp only [Bool.and_eq_true] at hb
        refine key 3 (b.body ++ ([0] ++ [])) (by unfold Bp.bytes; rw [if_neg h2, if_neg h1]; simp) (by simp) (fun R he hc e => ?_)
        have hc2 := Cut.body (Bp.rest_iff.1 hb.2) 3 hc
        obtain ⟨hc3, hc4⟩ := hc2.num (n := 1) rfl
        obtain ⟨p, hp⟩ := hc3.nil
        refine ⟨p, ?_⟩
        unfold readBpM
        simp only [e, kindM_head (h := (headB 3, R)) he 3 (by simp) rfl]
        rw [if_neg (by decide), if_pos trivial]
        split
        · rw [failM_had hp]; exact hp
        · exact hp
      · cases hb
/-- What is read is right, and no longer than the text. -/
theorem readBp_back (s : List UInt8) (hs : s.length ≤ 4611686018427387904) (h : (readBpM s).2.err = none) : (readBpM s).1.okB = true ∧ (readBpM s).1.bytes.length ≤ s.length := by
  have hok : (newM s 0).ok := ⟨Nat.zero_le _, by show 0 + s.length ≤ _; omega⟩
  have e4 : ∀ R : RS, R = (bytesM (newM s 0) 4).2 → R.err = none → kindM (bytesM (newM s 0) 4) ≠ 0 → ∃ k rest, (k = 1 ∨ k = 2 ∨ k = 3) ∧ kindM (bytesM (newM s 0) 4) = k ∧ s = headB k ++ rest ∧ R.Left rest ∧ R.ok := by
    intro R hR he hk
    rw [hR] at he
    obtain ⟨c, rest, l1, L1, b1, G1⟩ := bytesM_back hok he
    have hR' : R = (newM s 0).skip 4 := by rw [hR, b1]
    have hs' : s = c ++ rest := L1.left
    have hkm : kindM (bytesM (newM s 0) 4) = if c = [0, 0, 0, 0] then 1 else if c = [0, 0, 0, 128] then 2 else if c = [0, 0, 2, 2] then 3 else 0 := by
      unfold kindM
      rw [if_pos he, b1]
    rw [hkm] at hk ⊢
    rw [hR']
    split at hk
    · rename_i hc; exact ⟨1, rest, by simp, if_pos hc, by rw [hs', hc]; rfl, G1, G1.ok⟩
    · rename_i hc
      rw [if_neg hc]
      split at hk
      · rename_i hc2; exact ⟨2, rest, by simp, if_pos hc2, by rw [hs', hc2]; rfl, G1, G1.ok⟩
      · rename_i hc2
        rw [if_neg hc2]
        split at hk
        · rename_i hc3; exact ⟨3, rest, by simp, if_pos hc3, by rw [hs', hc3]; rfl, G1, G1.ok⟩
        · exact absurd rfl hk
  generalize hB : bytesM (newM s 0) 4 = Bq at *
  have hk0 : kindM Bq ≠ 0 := by
    intro h0
    unfold readBpM at h
    simp only [hB, h0] at h
    rw [if_neg (by decide), if_neg (by decide), if_pos trivial] at h
    exact failM_back h
  have he : Bq.2.err = none := by
    by_cases he : Bq.2.err = none
    · exact he
    · exact absurd (kindM_err he) hk0
  obtain ⟨k, rest, hk, hkm, hs', L, okR⟩ := e4 Bq.2 rfl he hk0
  clear e4
  rcases hk with rfl | rfl | rfl
  · have e : readBpM s = ({ (readBodyM Bq.2 1).1 with fl := (readBodyM Bq.2 1).1.fl.two }, (readBodyM Bq.2 1).2) := by
      unfold readBpM; simp only [hB, hkm]; rw [if_pos trivial]
    rw [e] at h ⊢
    obtain ⟨r2, L2, hr, hf, hkd, L3⟩ := readBody_back 1 okR h
    have q2 : rest = _ := L.left.symm.trans L2.left
    generalize (readBodyM Bq.2 1).1 = x at *
    refine ⟨?_, ?_⟩
    · unfold Bp.okB
      rw [if_neg (by show ¬ x.kind = 2; omega), if_pos (show x.kind = 1 from hkd)]
      have : Bp.restB { x with fl := x.fl.two } = true := Bp.rest_iff.2 ⟨hr.root, hr.sender, hr.port, hr.cost0, hr.cost1, hr.age0, hr.age1, hr.max0, hr.max1, hr.hello0, hr.hello1, hr.wait0, hr.wait1⟩
      rw [this]
      simp [Fl.two]
    · unfold Bp.bytes
      rw [if_neg (by show ¬ x.kind = 2; omega), if_pos (show x.kind = 1 from hkd), hs', q2]
      simp only [List.length_append, headB_len, Bp.body_len]
      omega
  · have e : readBpM s = (Bp.notice, Bq.2) := by
      unfold readBpM; simp only [hB, hkm]; rw [if_neg (by decide), if_neg (by decide), if_neg (by decide)]
    rw [e]
    exact ⟨show Bp.notice.okB = true by decide, by rw [hs', List.length_append]; exact Nat.le_add_right _ _⟩
  · have e : readBpM s = ((readBodyM Bq.2 3).1, if (numM (readBodyM Bq.2 3).2 1).1 ≠ 0 then failM (numM (readBodyM Bq.2 3).2 1).2 3 ((readBodyM Bq.2 3).2.place : Int) else (numM (readBodyM Bq.2 3).2 1).2) := by
      unfold readBpM; simp only [hB, hkm]; rw [if_neg (by decide), if_pos trivial]
    rw [e] at h ⊢
    simp only [] at h ⊢
    split at h
    · exact (failM_back h).elim
    · rename_i hn
      have hn : (numM (readBodyM Bq.2 3).2 1).1 = 0 := by omega
      obtain ⟨c, r2, l2, L2, e2, L3⟩ := numM_back (okR.body 3) h
      obtain ⟨r3, L4, hr, hf, hkd, L5⟩ := readBody_back 3 okR L2.none
      have q1 : r3 = c ++ r2 := L5.left.symm.trans L2.left
      have q2 : rest = _ := L.left.symm.trans L4.left
      have hc : c = [0] := by
        match c, l2 with
        | [x], _ =>
          rw [e2] at hn
          have : x.toNat = 0 := by simpa [beNum] using hn
          rw [UInt8.toNat_inj.1 (show x.toNat = (0 : UInt8).toNat from this)]
      generalize (readBodyM Bq.2 3).1 = x at *
      refine ⟨?_, ?_⟩
      · unfold Bp.okB
        rw [if_neg (by omega), if_neg (by omega), if_pos hkd, hf, Bp.rest_iff.2 hr]; rfl
      · rw [hs', q2, q1, hc]
        unfold Bp.bytes
        rw [if_neg (by omega), if_neg (by omega)]
        simp only [List.length_append, headB_len, Bp.body_len, List.length_cons, List.length_nil]
        omega
end Go.Proofs.YteibhcocldihbaaDoor

/- WireZeros. -/
import Derived.Test.YtdeaednccdoklaaDoorWired
import Derived.Test.YtdeaednccdoklaaDoorPick
import Derived.Test.YtdeaednccdoklaaDoorStRd
import Derived.Test.YtdeaednccdoklaaDoorTell2At
import Derived.Test.YtdeaednccdoklaaDoorShelf
import Derived.Test.YtdeaednccdoklaaDoorAllVar
import Derived.Test.YtdeaednccdoklaaDoorRsL
namespace Go.Proofs.YtdeaednccdoklaaDoor
open Go.RowKit
theorem trimLeft_none : ∀ (l : List UInt8), l.findIdx? nz = none → Lib.trimLeftB l 0 = []
  | [], _ => rfl
  | a :: t, h => by
    rw [List.findIdx?_cons] at h
    by_cases ha : a = 0
    · subst ha
      have h2 : t.findIdx? nz = none := by simpa [nz] using h
      have := trimLeft_none t h2
      unfold Lib.trimLeftB at this ⊢
      rw [List.dropWhile_cons_of_pos (by decide)]
      exact this
    · simp [nz, ha] at h
theorem trimLeft_some : ∀ (l : List UInt8) (j : Nat), l.findIdx? nz = some j → (Lib.trimLeftB l 0).length + j = l.length
  | [], _, h => by simp at h
  | a :: t, j, h => by
    rw [List.findIdx?_cons] at h
    by_cases ha : a = 0
    · subst ha
      have h2 : (t.findIdx? nz).map (· + 1) = some j := by simpa [nz] using h
      obtain ⟨i, hi, rfl⟩ := Option.map_eq_some_iff.1 h2
      have := trimLeft_some t i hi
      unfold Lib.trimLeftB at this ⊢
      rw [List.dropWhile_cons_of_pos (by decide)]
      simp only [List.length_cons]
      omega
    · have h2 : 0 = j := by simpa [nz, ha] using h
      subst h2
      unfold Lib.trimLeftB
      rw [List.dropWhile_cons_of_neg (by simpa using ha)]
      rfl
section
variable {B : Nat} {w0 w : World} {A : List It} {b g : Nat} {R : RS}
theorem zeros_e2 (H : St B w0 w (rd b R g :: A)) :
    Calls Tryd.prog 18 #[.pointer (some ⟨b, 0, none⟩)] w fun e w' => ∃ ok R', zerosM R = (ok, R') ∧ e = .returned (.bool ok) ∧ RdTo B w0 b R' A w' :=
  (zeros_st H).mono fun _ _ h => ⟨_, _, rfl, h.1, h.2⟩
theorem bytes_e2 (H : St B w0 w (rd b R g :: A)) (n : Nat) (hn : n ≤ 4611686018427387904) :
    Calls Tryd.prog 16 #[.pointer (some ⟨b, 0, none⟩), .int .i64 (n : Int)] w fun e w' => ∃ c R', bytesM R n = (c, R') ∧ e = .returned (.string ⟨c.toArray⟩) ∧ RdTo B w0 b R' A w' :=
  (bytes_st H n hn).mono fun _ _ h => ⟨_, _, rfl, h.1, h.2⟩
end
set_option maxRecDepth 100000 in
set_option maxHeartbeats 4000000 in
theorem law_WireZeros (s : List UInt8) (n : Int) (_ : s.length ≤ 9223372036854775807) (_ : (Lit.int .i64 n).wf = true) (w : World) (hE : ErrVar w) :
    Calls Tryd.prog 6 #[.string ⟨s.toArray⟩, .int .i64 n] w fun e w' => e = .returned (.bool true) ∧ Below w.heap.size w w' := by
  have HE := Lib.hid hE
  clear hE
  have H0 := Lib.hid (St.init w)
  by_cases h2 : 200 < s.length
  · have hI : (200 : Int) < (s.length : Int) := by omega
    go_enter Tryd.func6, Tryd.ntmps6
    go_wp2_with fail
    refine (wired_any _).mono ?_
    rintro e w1 ⟨rfl, hb1⟩
    go_wp2_with fail
    go_ret
    exact ⟨rfl, hb1⟩
  · have hI : ¬ (200 : Int) < (s.length : Int) := by omega
    have p1 := pickN_lt n (s.length + 1) (by omega)
    generalize hp : pickN n (s.length + 1) = k at p1
    have Hp := Lib.hid hp
    have hkl : k ≤ s.length := by omega
    clear hp
    obtain ⟨D, hD⟩ : ∃ D, s.drop k = D := ⟨_, rfl⟩
    have hDl : D.length + k = s.length := by rw [← hD, List.length_drop]; omega
    have HD := Lib.hid hD
    have hB : bytesM (newM s 50) k = (s.take k, ⟨s, k, 50, none⟩) := by
      rw [bytesM_ok rfl (by show 0 + k ≤ s.length; omega)]
      simp [newM]
    have HB := Lib.hid hB
    have HT := Lib.hid (fun W => Tryd.strings_TrimLeft_one ⟨D.toArray⟩ 0 (by decide) W)
    -- what Zeros says
    obtain ⟨ok, R5, hZ, hcase⟩ : ∃ ok R5, zerosM ⟨s, k, 50, none⟩ = (ok, R5) ∧ ((ok = true ∧ R5.err = none ∧ (Lib.trimLeftB D 0).length = 0 ∧ R5.place = 50 + s.length) ∨ (ok = false ∧ (∃ p, R5.err = some (15, p)) ∧ ∃ j, j < D.length ∧ (Lib.trimLeftB D 0).length + j = D.length ∧ R5.place = 50 + k + j)) := by
      cases hf : (s.drop k).findIdx? nz with
      | none =>
        refine ⟨true, { (⟨s, k, 50, none⟩ : RS) with at_ := s.length }, zerosM_yes (R := ⟨s, k, 50, none⟩) rfl hf, .inl ⟨rfl, rfl, ?_, ?_⟩⟩
        · rw [← hD, trimLeft_none _ hf]; rfl
        · rfl
      | some j =>
        have hj := trimLeft_some _ j hf
        have hlt : j < D.length := by
          have := (List.findIdx?_eq_some_iff_getElem.1 hf).1
          rw [hD] at this; exact this
        rw [hD] at hj
        refine ⟨false, _, zerosM_no (R := ⟨s, k, 50, none⟩) rfl hf, .inr ⟨rfl, ⟨_, by rw [failM_new rfl]⟩, j, hlt, hj, ?_⟩⟩
        rw [failM_new rfl]
        show 50 + (k + j) = _
        omega
    have HZ := Lib.hid hZ
    have hTl : (Lib.trimLeftB D 0).length ≤ D.length := by rcases hcase with ⟨_, _, h, _⟩ | ⟨_, _, j, _, h, _⟩ <;> omega
    generalize hT : Lib.trimLeftB D 0 = T at *
    clear hT hZ hB hD
    go_enter Tryd.func6, Tryd.ntmps6
    go_wp2_with fail
    refine (wired_any _).mono ?_
    rintro e w1 ⟨rfl, hb1⟩
    have H1 := Lib.hid (H0.out.ext hb1)
    clear hb1 H0
    go_wp2_with fail
    refine (new_st H1.out s 50 (by omega)).mono ?_
    rintro e w2 ⟨rfl, h2⟩
    have H2 := Lib.hid h2
    clear h2 H1
    generalize w1.heap.size = b at *
    go_wp2_with fail
    rw [show ((s.length : Int) + 1) = ((s.length + 1 : Nat) : Int) by omega]
    refine (pick_any n (s.length + 1) _ (by omega) (by omega)).mono ?_
    rintro e w' ⟨rfl, rfl⟩
    rw [Hp.out]
    go_wp2_with fail
    refine (bytes_e2 H2.out k (by omega)).mono ?_
    rintro e w4 ⟨c4, R4, e4, rfl, g4, h4⟩
    rw [HB.out] at e4
    obtain ⟨rfl, rfl⟩ := Prod.mk.inj e4
    have H4 := Lib.hid h4
    clear h4 e4 H2
    go_upto_region 11 with (fail)
    simp only [HD.out]
    go_wp2_with (first
      | ((with_reducible refine (HT.out _).mono ?_)
         rintro e w5 ⟨rfl, rfl⟩
         skip))
    refine (zeros_e2 H4.out).mono ?_
    rintro e w6 ⟨ok6, R6, e6, rfl, g6, h6⟩
    rw [HZ.out] at e6
    obtain ⟨rfl, rfl⟩ := Prod.mk.inj e6
    have H6 := Lib.hid h6
    clear h6 e6 H4
    rcases hcase with ⟨rfl, he, hT0, hpl⟩ | ⟨rfl, ⟨p, he⟩, j, hj, hTj, hpl⟩
    · have He := Lib.hid (errV_none he g6)
      have hk1 : ((D.length : Int) - (T.length : Int) == (D.length : Int)) = true := by rw [beq_iff_eq]; omega
      have Hpl : Hid ((R5.place : Int) = 50 + (k : Int) + ((D.length : Int) - (T.length : Int))) := Lib.hid (by omega)
      clear he hpl hT0
      go_upto_region 15 with (first
        | ((with_reducible refine (at_st H6.out).mono ?_)
           rintro e w7 ⟨rfl, h7⟩
           rw [Hpl.out]
           have H7 := Lib.hid h7
           clear h7))
      go_wp2_with (first
        | ((with_reducible refine (err_st H7.out).mono ?_)
           rintro e w8 ⟨rfl, rfl⟩
           rw [He.out]))
      go_ret
      exact ⟨rfl, H7.out.below⟩
    · have He := Lib.hid (errV_some he g6)
      have hc6 := (H6.out.rdp.err 15 p he).2.1
      have hk1 : ((D.length : Int) - (T.length : Int) == (D.length : Int)) = false := by rw [beq_eq_false_iff_ne]; omega
      have Hpl : Hid ((R5.place : Int) = 50 + (k : Int) + ((D.length : Int) - (T.length : Int))) := Lib.hid (by omega)
      have HX := Lib.hid he
      clear he hpl hTj
      go_upto_region 15 with (first
        | ((with_reducible refine (at_st H6.out).mono ?_)
           rintro e w7 ⟨rfl, h7⟩
           rw [Hpl.out]
           have H7 := Lib.hid h7
           clear h7))
      go_wp2_with (first
        | ((with_reducible refine (err_st H7.out).mono ?_)
           rintro e w8 ⟨rfl, rfl⟩
           rw [He.out])
        | ((with_reducible refine (err_st H7.out).mono ?_)
           rintro e w8 ⟨rfl, rfl⟩
           rw [He.out])
        | ((with_reducible refine (tell_at g6 15 _ (HE.out.keep H7.out.below) ((H7.out.rdp.err 15 p HX.out).2.1)).mono ?_)
           rintro e w9 ⟨rfl, hb9⟩
           have H9 := Lib.hid (H7.out.ext hb9)
           clear hb9))
      go_ret
      exact ⟨rfl, H9.out.below⟩
end Go.Proofs.YtdeaednccdoklaaDoor

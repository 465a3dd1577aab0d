/- wire.Reader in every state: one contract a method, by what a call owns. -/
import Derived.Test.YtjekdodboihfhaaDoorSt
import Derived.Test.YtjekdodboihfhaaDoorRs
import Derived.Test.YtjekdodboihfhaaDoorReader4
set_option linter.all false
namespace Go.Proofs.YtjekdodboihfhaaDoor
open Go.RowKit
theorem Fr.of_upd {b : Nat} {w W : World} (h : Upd b w W) {gs : List Nat} (hb : b ∈ gs) : Fr gs w W :=
  ⟨h.os, h.tape, h.output, h.size, fun i hi hn => h.block i hi (fun e => hn (by rw [e]; exact hb))⟩
def errV (R : RS) (g : Nat) : Value := match R.err with
  | none => .nilIface
  | some _ => .iface 51 (.pointer (some ⟨g, 0, none⟩))
theorem errV_none {R : RS} (h : R.err = none) (g : Nat) : errV R g = .nilIface := by unfold errV; rw [h]
theorem errV_some {R : RS} {x : Int × Int} (h : R.err = some x) (g : Nat) : errV R g = .iface 51 (.pointer (some ⟨g, 0, none⟩)) := by unfold errV; rw [h]
theorem Rd.loc {w W : World} {b : Nat} {s : List UInt8} {at_ off : Nat} {err : Value} (h : Rd w b s at_ off err) (hb : W.heap[b]? = w.heap[b]?) (hs : w.heap.size ≤ W.heap.size) : Rd W b s at_ off err :=
  ⟨(World.cell?_of_block (w := w) (a := ⟨b, 0, none⟩) hb).trans h.c0, (World.cell?_of_block (w := w) (a := ⟨b, 1, none⟩) hb).trans h.c1, (World.cell?_of_block (w := w) (a := ⟨b, 2, none⟩) hb).trans h.c2, (World.cell?_of_block (w := w) (a := ⟨b, 3, none⟩) hb).trans h.c3,
    (World.frozen?_of_block (w := w) (a := ⟨b, 1, none⟩) hb).trans h.z1, (World.frozen?_of_block (w := w) (a := ⟨b, 3, none⟩) hb).trans h.z3, Nat.lt_of_lt_of_le h.lt hs⟩
/-- What is known of a Reader in block b, whose error, if it has one, is in block g. -/
structure RdP (b : Nat) (R : RS) (g : Nat) (w : World) : Prop where
  ok : R.ok
  rd : Rd w b R.s R.at_ R.off (errV R g)
  err : ∀ e p, R.err = some (e, p) → g < w.heap.size ∧ w.cell? ⟨g, 0, none⟩ = some (.int .i64 e) ∧ w.cell? ⟨g, 1, none⟩ = some (.int .i64 p)
def rd (b : Nat) (R : RS) (g : Nat) : It where
  gs := b :: match R.err with | none => [] | some _ => [g]
  P w := RdP b R g w
  lt w h x hx := by
    rcases List.mem_cons.1 hx with rfl | hx
    · exact h.rd.lt
    · cases he : R.err with
      | none => rw [he] at hx; cases hx
      | some y =>
        rw [he] at hx
        rw [List.mem_singleton.1 hx]
        exact (h.err y.1 y.2 (by rw [he])).1
  loc w W h hs hp := by
    refine ⟨hp.ok, hp.rd.loc (h b (List.mem_cons_self ..)) hs, fun e p he => ?_⟩
    obtain ⟨h1, h2, h3⟩ := hp.err e p he
    have hg : W.heap[g]? = w.heap[g]? := h g (List.mem_cons_of_mem _ (by rw [he]; exact List.mem_singleton.2 rfl))
    exact ⟨Nat.lt_of_lt_of_le h1 hs, (World.cell?_of_block (w := w) (a := ⟨g, 0, none⟩) hg).trans h2, (World.cell?_of_block (w := w) (a := ⟨g, 1, none⟩) hg).trans h3⟩
theorem rd_gs_none {b : Nat} {R : RS} {g : Nat} (h : R.err = none) : (rd b R g).gs = [b] := by unfold rd; simp only [h]
theorem rd_gs_some {b : Nat} {R : RS} {g : Nat} {x : Int × Int} (h : R.err = some x) : (rd b R g).gs = [b, g] := by unfold rd; simp only [h]
theorem rd_b (b : Nat) (R : RS) (g : Nat) : b ∈ (rd b R g).gs := List.mem_cons_self ..
/-- The state of a Reader after a call. -/
def RdTo (B : Nat) (w0 : World) (b : Nat) (R : RS) (A : List It) (w : World) : Prop := ∃ g, St B w0 w (rd b R g :: A)
section
variable {B : Nat} {w0 w : World} {A : List It} {b g : Nat} {R : RS}
theorem St.rdp (H : St B w0 w (rd b R g :: A)) : RdP b R g w := H.head
/-- No error before, none behind. -/
theorem St.rd_none (H : St B w0 w (rd b R g :: A)) (he : R.err = none) {R' : RS} (he' : R'.err = none) (ok : R'.ok) {W : World} (hu : Upd b w W) (hr : Rd W b R'.s R'.at_ R'.off .nilIface) : RdTo B w0 b R' A W := by
  refine ⟨g, H.step (Fr.of_upd hu (rd_b ..)) ⟨ok, by rw [errV_none he']; exact hr, fun e p h => by rw [he'] at h; cases h⟩ (fun x hx => .inl ?_)⟩
  rw [rd_gs_none he'] at hx
  rw [rd_gs_none he]; exact hx
/-- No error before, one behind. -/
theorem St.rd_fresh (H : St B w0 w (rd b R g :: A)) (_ : R.err = none) {R' : RS} {e p : Int} (he' : R'.err = some (e, p)) (ok : R'.ok) {W : World} (hu : Upd b w W) (q : Nat) (hq : w.heap.size ≤ q) (hr : Rd W b R'.s R'.at_ R'.off (.iface 51 (.pointer (some ⟨q, 0, none⟩)))) (h1 : q < W.heap.size) (h2 : W.cell? ⟨q, 0, none⟩ = some (.int .i64 e)) (h3 : W.cell? ⟨q, 1, none⟩ = some (.int .i64 p)) : RdTo B w0 b R' A W := by
  refine ⟨q, H.step (Fr.of_upd hu (rd_b ..)) ⟨ok, by rw [errV_some he']; exact hr, fun e' p' h => ?_⟩ (fun x hx => ?_)⟩
  · rw [he'] at h
    injection h with h
    injection h with h4 h5
    subst h4 h5
    exact ⟨h1, h2, h3⟩
  · rw [rd_gs_some he'] at hx
    rcases List.mem_cons.1 hx with rfl | hx
    · exact .inl (rd_b ..)
    · rw [List.mem_singleton.1 hx]; exact .inr hq
theorem rd_had (H : St B w0 w (rd b R g :: A)) {x : Int × Int} (he : R.err = some x) : Rd w b R.s R.at_ R.off (.iface 51 (.pointer (some ⟨g, 0, none⟩))) := by
  have := H.rdp.rd
  rw [errV_some he] at this
  exact this
theorem rd_nil (H : St B w0 w (rd b R g :: A)) (he : R.err = none) : Rd w b R.s R.at_ R.off .nilIface := by
  have := H.rdp.rd
  rw [errV_none he] at this
  exact this
theorem new_st (H : St B w0 w A) (s : List UInt8) (off : Nat) (hs : off + s.length ≤ 4611686018427387904) :
    Calls Tryd.prog 23 #[.string ⟨s.toArray⟩, .int .i64 (off : Int)] w fun e w' => e = .returned (.pointer (some ⟨w.heap.size, 0, none⟩)) ∧ St B w0 w' (rd w.heap.size (newM s off) 0 :: A) := by
  refine (new_any s off w).mono ?_
  rintro e w1 ⟨rfl, hr, hb, hlt⟩
  refine ⟨rfl, H.add hb ⟨⟨Nat.zero_le _, hs⟩, hr, fun e p h => by cases h⟩ (fun x hx => ?_)⟩
  rw [rd_gs_none (R := newM s off) rfl] at hx
  rw [List.mem_singleton.1 hx]; exact Nat.le_refl _
theorem left_st (H : St B w0 w (rd b R g :: A)) :
    Calls Tryd.prog 41 #[.pointer (some ⟨b, 0, none⟩)] w fun e w' => e = .returned (.int .i64 ((R.s.length - R.at_ : Nat) : Int)) ∧ St B w0 w' (rd b R g :: A) := by
  have hl := H.rdp.ok.lim
  refine (left_any H.rdp.rd H.rdp.ok.le (by omega)).mono ?_
  rintro e w1 ⟨rfl, hb⟩
  exact ⟨rfl, H.ext hb⟩
theorem at_st (H : St B w0 w (rd b R g :: A)) :
    Calls Tryd.prog 27 #[.pointer (some ⟨b, 0, none⟩)] w fun e w' => e = .returned (.int .i64 (R.place : Int)) ∧ St B w0 w' (rd b R g :: A) := by
  have hl := H.rdp.ok.lim
  have hl2 := H.rdp.ok.le
  refine (at_any H.rdp.rd (by omega)).mono ?_
  rintro e w1 ⟨rfl, hb⟩
  exact ⟨rfl, H.ext hb⟩
theorem err_st (H : St B w0 w (rd b R g :: A)) :
    Calls Tryd.prog 26 #[.pointer (some ⟨b, 0, none⟩)] w fun e w' => e = .returned (errV R g) ∧ w = w' := err_any H.rdp.rd
theorem fail_st (H : St B w0 w (rd b R g :: A)) (e p : Int) :
    Calls Tryd.prog 25 #[.pointer (some ⟨b, 0, none⟩), .int .i64 e, .int .i64 p] w fun r w' => r = .returned (.tuple #[]) ∧ RdTo B w0 b (failM R e p) A w' := by
  cases he : R.err with
  | some x =>
    refine (fail_had (rd_had H he) e p).mono ?_
    rintro r w1 ⟨rfl, rfl⟩
    rw [failM_had he]
    exact ⟨rfl, g, H⟩
  | none =>
    refine (fail_new (rd_nil H he) e p).mono ?_
    rintro r w1 ⟨rfl, hu, hlt, hr, q, hq, h1, h2, h3⟩
    injection hq with _ hq
    injection hq with hq
    injection hq with hq
    injection hq with hq
    subst hq
    refine ⟨rfl, ?_⟩
    rw [failM_new he]
    exact H.rd_fresh (R' := { R with err := some (e, p) }) he rfl ⟨H.rdp.ok.le, H.rdp.ok.lim⟩ hu _ (Nat.le_refl _) hr h1 h2 h3
theorem bytes_st (H : St B w0 w (rd b R g :: A)) (n : Nat) (hn64 : n ≤ 4611686018427387904) :
    Calls Tryd.prog 40 #[.pointer (some ⟨b, 0, none⟩), .int .i64 (n : Int)] w fun e w' => e = .returned (.string ⟨(bytesM R n).1.toArray⟩) ∧ RdTo B w0 b (bytesM R n).2 A w' := by
  have hok := H.rdp.ok
  cases he : R.err with
  | some x =>
    refine (bytes_had (rd_had H he) n).mono ?_
    rintro e w1 ⟨rfl, hb⟩
    rw [bytesM_had he]
    exact ⟨rfl, g, H.ext hb⟩
  | none =>
    by_cases hn : R.at_ + n ≤ R.s.length
    · refine (bytes_ok (rd_nil H he) n hn (by have := hok.lim; omega)).mono ?_
      rintro e w1 ⟨rfl, hr, hu⟩
      rw [bytesM_ok he hn]
      exact ⟨rfl, H.rd_none he (R' := { R with at_ := R.at_ + n }) he ⟨hn, hok.lim⟩ hu hr⟩
    · rw [bytesM_no he hn]
      have hl := hok.lim
      have hle := hok.le
      have hfm : failM R 7 (R.place : Int) = { R with err := some (7, (R.place : Int)) } := failM_new he 7 _
      have Hfm := Lib.hid hfm
      have Hr := Lib.hid H
      obtain ⟨c0, c1, c2, c3, z1, z3, hlt⟩ := rd_nil H he
      clear hfm he H hok
      go_enter Tryd.func40, Tryd.ntmps40
      go_wp2_with fail
      refine (left_st Hr.out).mono ?_
      rintro e w1 ⟨rfl, h1⟩
      have H1 := Lib.hid h1
      clear h1 c0 c1 c2 c3 z1 z3 Hr
      have hnl : R.s.length - R.at_ < n := by omega
      go_wp2_with fail
      refine (at_st H1.out).mono ?_
      rintro e w2 ⟨rfl, h2⟩
      have H2 := Lib.hid h2
      clear h2 H1
      go_wp2_with fail
      refine (fail_st H2.out 7 _).mono ?_
      rintro e w3 ⟨rfl, h3⟩
      have H3 := Lib.hid h3
      clear h3 H2
      go_wp2_with fail
      go_ret
      exact ⟨rfl, by rw [← Hfm.out]; exact H3.out⟩
set_option maxRecDepth 100000 in
set_option maxHeartbeats 1000000 in
theorem num_st (H : St B w0 w (rd b R g :: A)) (n : Nat) (h1 : 1 ≤ n) (h7 : n ≤ 7) :
    Calls Tryd.prog 24 #[.pointer (some ⟨b, 0, none⟩), .int .i64 (n : Int)] w fun e w' => e = .returned (.int .i64 ((numM R n).1 : Int)) ∧ RdTo B w0 b (numM R n).2 A w' := by
  cases he : R.err with
  | some x =>
    refine (num_had (rd_had H he) n).mono ?_
    rintro e w1 ⟨rfl, hb⟩
    rw [beNum_nil' he]
    exact ⟨rfl, g, H.ext hb⟩
  | none =>
    have hok := H.rdp.ok
    by_cases hn : R.at_ + n ≤ R.s.length
    · refine (num_ok (rd_nil H he) n h1 h7 hn (by have := hok.lim; omega)).mono ?_
      rintro e w1 ⟨rfl, hr, hu⟩
      unfold numM
      rw [bytesM_ok he hn]
      exact ⟨rfl, H.rd_none he (R' := { R with at_ := R.at_ + n }) he ⟨hn, hok.lim⟩ hu hr⟩
    · have hm : bytesM R n = ([], { R with err := some (7, (R.place : Int)) }) := bytesM_no he hn
      unfold numM
      have hB := bytes_st H n (by omega)
      rw [hm] at hB
      rw [hm]
      have HB := Lib.hid hB
      obtain ⟨c0, c1, c2, c3, z1, z3, hlt⟩ := rd_nil H he
      clear hm hB he H hok
      simp only [beNum_nil]
      go_enter Tryd.func24, Tryd.ntmps24
      go_wp2_with fail
      refine HB.out.mono ?_
      rintro e w1 ⟨rfl, h2⟩
      have H2 := Lib.hid h2
      clear h2 c0 c1 c2 c3 z1 z3 HB
      obtain ⟨cap, w2, hcap, hcv, hb2, hz2, hx2⟩ := conv_bytesL (P := Tryd.prog) w1 9 48 5 [] Tryd.underlying9 Tryd.underlying48 Tryd.underlying5
      simp only [List.length_nil] at hcv
      clear hx2
      go_wp2_with fail
      refine wp_loop_once ?_
      go_wp2_with fail
      go_ret
      obtain ⟨g', h3⟩ := H2.out
      exact ⟨rfl, g', h3.ext hb2⟩
/-- The rest of a text: all noughts, or the first that is not. -/
theorem rest_cases (s : List UInt8) (a : Nat) : ((s.drop a).findIdx? nz = none ∧ ∀ i (hi : i < s.length), a ≤ i → s[i] = 0) ∨
    ∃ j, (s.drop a).findIdx? nz = some j ∧ ∃ hj : a + j < s.length, s[a + j] ≠ 0 ∧ ∀ i (hi : i < s.length), a ≤ i → i < a + j → s[i] = 0 := by
  cases h : (s.drop a).findIdx? nz with
  | none =>
    left
    refine ⟨rfl, fun i hi hai => ?_⟩
    rw [List.findIdx?_eq_none_iff] at h
    have hm : s[i] ∈ s.drop a := by
      rw [List.mem_drop_iff_getElem]
      exact ⟨i - a, by omega, by congr 1; omega⟩
    have := h _ hm
    simpa [nz] using this
  | some j =>
    right
    rw [List.findIdx?_eq_some_iff_getElem] at h
    obtain ⟨hj, hp, hb⟩ := h
    have hj' : a + j < s.length := by simp at hj; omega
    refine ⟨j, rfl, hj', ?_, fun i hi hai hlt => ?_⟩
    · have h1 : (s.drop a)[j] = s[a + j] := by rw [List.getElem_drop]
      rw [h1] at hp
      simpa [nz] using hp
    · have := hb (i - a) (by omega)
      have h1 : (s.drop a)[i - a]'(by simp; omega) = s[i] := by rw [List.getElem_drop]; congr 1; omega
      rw [h1] at this
      simpa [nz] using this
set_option maxHeartbeats 1000000 in
theorem zeros_st (H : St B w0 w (rd b R g :: A)) :
    Calls Tryd.prog 28 #[.pointer (some ⟨b, 0, none⟩)] w fun e w' => e = .returned (.bool (zerosM R).1) ∧ RdTo B w0 b (zerosM R).2 A w' := by
  cases he : R.err with
  | some x =>
    refine (zeros_had (rd_had H he)).mono ?_
    rintro e w1 ⟨rfl, hb⟩
    rw [zerosM_had he]
    exact ⟨rfl, g, H.ext hb⟩
  | none =>
    have hok := H.rdp.ok
    rcases rest_cases R.s R.at_ with ⟨hf, hz⟩ | ⟨j, hf, hj, hne, hz⟩
    · rw [zerosM_yes he hf]
      refine (zeros_yes (rd_nil H he) hok.le (by have := hok.lim; omega) hz).mono ?_
      rintro e w1 ⟨rfl, hr, hu⟩
      exact ⟨rfl, H.rd_none he (R' := { R with at_ := R.s.length }) he ⟨Nat.le_refl _, hok.lim⟩ hu hr⟩
    · rw [zerosM_no he hf]
      have hpl : R.place + j = ({ R with at_ := R.at_ + j } : RS).place := by unfold RS.place; simp only []; omega
      rw [hpl]
      clear hpl
      have hz0 : R.at_ ≤ R.at_ + j := by omega
      clear hf
      generalize R.at_ + j = z at *
      have hne' : ((R.s[z].toNat : Int) != 0) = true := by
        rw [bne_iff_ne]
        intro h0
        apply hne
        apply UInt8.toNat_inj.1
        simpa using h0
      have Hne : Hid (∀ p (hp : p < R.s.length), p = z → ((R.s[p].toNat : Int) != 0) = true) := Lib.hid (by intro p hp e; subst e; exact hne')
      have Hz := Lib.hid hz
      have Hr := Lib.hid H
      have He := Lib.hid he
      have hl := hok.lim
      have hle := hok.le
      clear hz hne hne' he H hok
      obtain ⟨s, a, off, err⟩ := R
      simp only [] at *
      go_enter Tryd.func28, Tryd.ntmps28
      go_wp2_with fail
      go_loopg [] (z + 1 - a) (fun k wr => ∃ p : Nat, a ≤ p ∧ p ≤ z ∧ k = z + 1 - p ∧ Hid (St B w0 wr (rd b ⟨s, p, off, err⟩ g :: A)))
      case atStart => exact ⟨a, by omega, hz0, rfl, Hr⟩
      case round =>
        obtain ⟨p, hp, hpz, hk, HR⟩ := hrel
        have Hk := Lib.hid hk
        clear hk
        obtain ⟨c0, c1, c2, c3, z1, z3, hlt⟩ := rd_nil HR.out He.out
        simp only [] at c0 c1 c2
        have hpl : p < s.length := by omega
        have hpos : 0 < s.length - p := by omega
        by_cases hlt' : p < z
        · have hb := Hz.out p hpl (by omega) (by omega)
          have hne : ((s[p].toNat : Int) != 0) = false := by rw [hb]; rfl
          clear hb
          go_wp2_with fail
          refine (left_st HR.out).mono ?_
          rintro e w1 ⟨rfl, h1⟩
          have H1 := Lib.hid h1
          clear c0 c1 c2 c3 z1 z3 h1 HR
          obtain ⟨d0, d1, d2, d3, y1, y3, hlt1⟩ := rd_nil H1.out He.out
          simp only [] at d0 d1 d2
          go_wp2_with fail
          go_quiet (fail)
          go_wp2_with fail
          go_roundg (z + 1 - (p + 1))
          case measure => have := Hk.out; omega
          case rel =>
            refine ⟨p + 1, by omega, by omega, rfl, Lib.hid ?_⟩
            have h2 := H1.out.drewN nq
            exact h2.step (k' := rd b ⟨s, p + 1, off, err⟩ g) (Fr.setCell b 1 _ _ (rd_b ..)) ⟨⟨by show p + 1 ≤ s.length; omega, hl⟩, h2.rdp.rd.setAt' (by show _ = ((p + 1 : Nat) : Int); omega), fun e p he => by rw [He.out] at he; cases he⟩ (fun x hx => .inl hx)
        · obtain rfl : p = z := by omega
          have hne := Hne.out p hpl rfl
          go_wp2_with fail
          refine (left_st HR.out).mono ?_
          rintro e w1 ⟨rfl, h1⟩
          have H1 := Lib.hid h1
          clear c0 c1 c2 c3 z1 z3 h1 HR
          obtain ⟨d0, d1, d2, d3, y1, y3, hlt1⟩ := rd_nil H1.out He.out
          simp only [] at d0 d1 d2
          go_wp2_with fail
          go_quiet (fail)
          have H2 := Lib.hid (H1.out.drewN nq)
          clear d0 d1 d2 d3 y1 y3 H1
          go_wp2_with fail
          refine (at_st H2.out).mono ?_
          rintro e w3 ⟨rfl, h3⟩
          have H3 := Lib.hid h3
          clear h3 H2
          go_wp2_with fail
          refine (fail_st H3.out 15 _).mono ?_
          rintro e w4 ⟨rfl, h4⟩
          have h5 := h4
          obtain ⟨g4, h4⟩ := h4
          have H5 := Lib.hid h5
          have c3 := (rd_had h4 (x := (15, _)) (by rw [failM_new He.out])).c3
          have hlt4 := (rd_had h4 (x := (15, _)) (by rw [failM_new He.out])).lt
          clear h4 h5
          go_wp2_with fail
          go_ret
          exact ⟨rfl, H5.out⟩
end
end Go.Proofs.YtjekdodboihfhaaDoor

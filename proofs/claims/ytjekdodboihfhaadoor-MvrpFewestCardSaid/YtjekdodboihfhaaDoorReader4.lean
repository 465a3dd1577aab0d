/- wire.Reader: Zeros. -/
import Derived.Test.YtjekdodboihfhaaDoorReader3
import Derived.Deep.LoopGhost
set_option linter.all false
namespace Go.Proofs.YtjekdodboihfhaaDoor
open Go.RowKit
theorem zeros_had {w : World} {b : Nat} {s : List UInt8} {at_ off : Nat} {t : TypeId} {x : Value} (h : Rd w b s at_ off (.iface t x)) :
    Calls Tryd.prog 28 #[.pointer (some ⟨b, 0, none⟩)] w fun e w' => e = .returned (.bool false) ∧ Below w.heap.size w w' := by
  obtain ⟨c0, c1, c2, c3, z1, z3, hlt⟩ := h
  go_enter Tryd.func28, Tryd.ntmps28
  go_wp2_with fail
  refine wp_loop_once ?_
  go_wp2_with fail
  go_ret
  exact ⟨rfl, Below.refl _ _⟩
set_option maxHeartbeats 400000 in
theorem zeros_yes {w : World} {b : Nat} {s : List UInt8} {at_ off : Nat} (h : Rd w b s at_ off .nilIface) (ha : at_ ≤ s.length) (hs : off + s.length ≤ 9223372036854775807)
    (hz : ∀ i (hi : i < s.length), at_ ≤ i → s[i] = 0) :
    Calls Tryd.prog 28 #[.pointer (some ⟨b, 0, none⟩)] w fun e w' => e = .returned (.bool true) ∧ Rd w' b s s.length off .nilIface ∧ Upd b w w' := by
  have Hr := Lib.hid h
  have Hz := Lib.hid hz
  clear h hz
  go_enter Tryd.func28, Tryd.ntmps28
  go_wp2_with fail
  go_loopg [] (s.length - at_) (fun k wr => ∃ p : Nat, at_ ≤ p ∧ p ≤ s.length ∧ k = s.length - p ∧ Hid (Rd wr b s p off .nilIface) ∧ Upd b w wr)
  case atStart => exact ⟨at_, by omega, ha, rfl, Hr, Upd.refl b w⟩
  case round =>
    obtain ⟨p, hp, hps, hk, HR, hu⟩ := hrel
    have Hk := Lib.hid hk
    clear hk
    obtain ⟨c0, c1, c2, c3, z1, z3, hlt⟩ := HR.out
    by_cases hlt' : p < s.length
    · have hb := Hz.out p hlt' hp
      have hne : ((s[p].toNat : Int) != 0) = false := by rw [hb]; rfl
      clear hb
      go_wp2_with fail
      refine (left_any HR.out (by omega) (by omega)).mono ?_
      rintro e w1 ⟨rfl, hb1⟩
      have HR1 := Lib.hid (HR.out.keep hb1)
      clear c0 c1 c2 c3 z1 z3
      obtain ⟨d0, d1, d2, d3, y1, y3, hlt1⟩ := HR1.out
      have hpos : 0 < s.length - p := by omega
      go_wp2_with fail
      go_quiet (fail)
      go_wp2_with fail
      go_roundg (s.length - (p + 1))
      case measure => have := Hk.out; omega
      case rel => exact ⟨p + 1, by omega, by omega, rfl, (Rd.setAt' (w := w1.drewN nq) ⟨d0, d1, d2, d3, y1, y3, hlt1⟩ (by omega)), ((Upd.of_below (below_drewN hb1 nq) b).setCell 1 _ |> hu.trans)⟩
    · have hpe : p = s.length := by omega
      go_wp2_with fail
      refine (left_any HR.out (by omega) (by omega)).mono ?_
      rintro e w1 ⟨rfl, hb1⟩
      have HR1 := Lib.hid (HR.out.keep hb1)
      clear c0 c1 c2 c3 z1 z3
      obtain ⟨d0, d1, d2, d3, y1, y3, hlt1⟩ := HR1.out
      have hzero : s.length - p = 0 := by omega
      have Hpe := Lib.hid hpe
      clear hpe
      go_wp2_with fail
      go_ret
      have hr2 := HR1.out
      rw [Hpe.out] at hr2
      exact ⟨rfl, hr2, hu.trans (Upd.of_below hb1 b)⟩
set_option maxHeartbeats 400000 in
theorem zeros_no {w : World} {b : Nat} {s : List UInt8} {at_ off : Nat} (h : Rd w b s at_ off .nilIface) (j : Nat) (ha : at_ ≤ j) (hj : j < s.length) (hs : off + s.length ≤ 9223372036854775807)
    (hz : ∀ i (hi : i < s.length), at_ ≤ i → i < j → s[i] = 0) (hne : s[j] ≠ 0) :
    Calls Tryd.prog 28 #[.pointer (some ⟨b, 0, none⟩)] w fun e w' => e = .returned (.bool false) ∧ Upd b w w' ∧ SomeErr w' b s j off 15 ((off + j : Nat) : Int) := by
  have Hr := Lib.hid h
  have Hz := Lib.hid hz
  have hne' : ((s[j].toNat : Int) != 0) = true := by
    rw [bne_iff_ne]
    intro h0
    apply hne
    apply UInt8.toNat_inj.1
    simpa using h0
  have Hne : Hid (∀ p (hp : p < s.length), p = j → ((s[p].toNat : Int) != 0) = true) := by intro p hp e; subst e; exact hne'
  clear h hz hne hne'
  go_enter Tryd.func28, Tryd.ntmps28
  go_wp2_with fail
  go_loopg [] (j + 1 - at_) (fun k wr => ∃ p : Nat, at_ ≤ p ∧ p ≤ j ∧ k = j + 1 - p ∧ Hid (Rd wr b s p off .nilIface) ∧ Upd b w wr)
  case atStart => exact ⟨at_, by omega, ha, rfl, Hr, Upd.refl b w⟩
  case round =>
    obtain ⟨p, hp, hps, hk, HR, hu⟩ := hrel
    have Hk := Lib.hid hk
    clear hk
    obtain ⟨c0, c1, c2, c3, z1, z3, hlt⟩ := HR.out
    have hpl : p < s.length := by omega
    have hpos : 0 < s.length - p := by omega
    by_cases hlt' : p < j
    · have hb := Hz.out p hpl hp hlt'
      have hne : ((s[p].toNat : Int) != 0) = false := by rw [hb]; rfl
      clear hb
      go_wp2_with fail
      refine (left_any HR.out (by omega) (by omega)).mono ?_
      rintro e w1 ⟨rfl, hb1⟩
      have HR1 := Lib.hid (HR.out.keep hb1)
      clear c0 c1 c2 c3 z1 z3
      obtain ⟨d0, d1, d2, d3, y1, y3, hlt1⟩ := HR1.out
      go_wp2_with fail
      go_quiet (fail)
      go_wp2_with fail
      go_roundg (j + 1 - (p + 1))
      case measure => have := Hk.out; omega
      case rel => exact ⟨p + 1, by omega, by omega, rfl, (Rd.setAt' (w := w1.drewN nq) ⟨d0, d1, d2, d3, y1, y3, hlt1⟩ (by omega)), ((Upd.of_below (below_drewN hb1 nq) b).setCell 1 _ |> hu.trans)⟩
    · have hpe : p = j := by omega
      have hne := Hne.out p hpl hpe
      have Hpe := Lib.hid hpe
      clear hpe
      go_wp2_with fail
      refine (left_any HR.out (by omega) (by omega)).mono ?_
      rintro e w1 ⟨rfl, hb1⟩
      have HR1 := Lib.hid (HR.out.keep hb1)
      clear c0 c1 c2 c3 z1 z3
      obtain ⟨d0, d1, d2, d3, y1, y3, hlt1⟩ := HR1.out
      go_wp2_with fail
      go_quiet (fail)
      have HR2 : Hid (Rd (w1.drewN nq) b s p off .nilIface) := ⟨d0, d1, d2, d3, y1, y3, hlt1⟩
      have hb2 := below_drewN hb1 nq
      clear d0 d1 d2 d3 y1 y3 hb1
      go_wp2_with fail
      refine (at_any HR2.out (by omega)).mono ?_
      rintro e w3 ⟨rfl, hb3⟩
      have HR3 := Lib.hid (HR2.out.keep hb3)
      go_wp2_with fail
      refine (fail_new HR3.out 15 _).mono ?_
      rintro e w4 ⟨rfl, hu4, hlt4, hr4, he4⟩
      have HR4 := Lib.hid hr4
      have HE4 := Lib.hid he4
      obtain ⟨f0, f1, f2, f3, x1, x3, hlt5⟩ := hr4
      clear he4
      go_wp2_with fail
      go_ret
      refine ⟨rfl, (hu.trans (Upd.of_below hb2 b)).trans ((Upd.of_below hb3 b).trans hu4), ?_⟩
      rw [← Hpe.out]
      exact ⟨_, HR4.out, HE4.out⟩
end Go.Proofs.YtjekdodboihfhaaDoor

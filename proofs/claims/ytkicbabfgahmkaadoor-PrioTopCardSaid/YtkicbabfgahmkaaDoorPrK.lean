/- The order of names and vectors, as plain data (out of TreeM). -/
import Derived.Test.YtkicbabfgahmkaaDoorLex
import Derived.Test.YtkicbabfgahmkaaDoorBpduM
set_option linter.all false
namespace Go.Proofs.YtkicbabfgahmkaaDoor
def Br.key (x : Br) : List Int := [x.prio, x.ext, x.ad.a.toNat, x.ad.b.toNat, x.ad.c.toNat, x.ad.d.toNat, x.ad.e.toNat, x.ad.f.toNat]
def Pt.key (x : Pt) : List Int := [x.prio, x.no]
structure Vec where
  root : Br
  cost : Int
  sender : Br
  port : Pt
  at_ : Pt
deriving DecidableEq, Inhabited
def Vec.key (x : Vec) : List Int := x.root.key ++ (x.cost :: (x.sender.key ++ (x.port.key ++ x.at_.key)))
theorem Br.inj {x y : Br} (h : x.key = y.key) : x = y := by
  obtain ⟨p, q, ⟨a, b, c, d, e, f⟩⟩ := x
  obtain ⟨p', q', ⟨a', b', c', d', e', f'⟩⟩ := y
  simp only [Br.key, List.cons.injEq, and_true] at h
  obtain ⟨h0, h1, h2, h3, h4, h5, h6, h7⟩ := h
  rw [h0, h1, u8_int h2, u8_int h3, u8_int h4, u8_int h5, u8_int h6, u8_int h7]
theorem Pt.inj {x y : Pt} (h : x.key = y.key) : x = y := by
  cases x; cases y; simpa [Pt.key] using h
theorem Br.key_len (x : Br) : x.key.length = 8 := rfl
theorem Pt.key_len (x : Pt) : x.key.length = 2 := rfl
theorem Vec.key_len (x : Vec) : x.key.length = 21 := rfl
theorem Vec.inj {x y : Vec} (h : x.key = y.key) : x = y := by
  unfold Vec.key at h
  obtain ⟨h1, h2⟩ := List.append_inj h rfl
  obtain ⟨h3, h4⟩ := List.cons.inj h2
  obtain ⟨h5, h6⟩ := List.append_inj h4 rfl
  obtain ⟨h7, h8⟩ := List.append_inj h6 rfl
  have k1 := Br.inj h1
  have k5 := Br.inj h5
  have k7 := Pt.inj h7
  have k8 := Pt.inj h8
  cases x; cases y
  simp only at k1 k5 k7 k8 h3
  subst k1 k5 k7 k8 h3
  rfl
/-- Whether a vector is better. -/
def better (a b : Vec) : Bool := decide (lexI a.key b.key < 0)
theorem better_irrefl (a : Vec) : better a a = false := by simp [better, lexI_refl]
theorem better_trans {a b c : Vec} (h : better a b = true) (k : better b c = true) : better a c = true := by
  simp only [better, decide_eq_true_eq] at *; exact lexI_trans h k
theorem better_total {a b : Vec} (h : better a b = false) (k : better b a = false) : a = b := by
  simp only [better, decide_eq_false_iff_not] at *
  have := lexI_neg a.key b.key
  exact Vec.inj (lexI_zero (by omega))
theorem better_asymm {a b : Vec} (h : better a b = true) : better b a = false := by
  simp only [better, decide_eq_true_eq, decide_eq_false_iff_not] at *
  have := lexI_neg a.key b.key
  omega
end Go.Proofs.YtkicbabfgahmkaaDoor

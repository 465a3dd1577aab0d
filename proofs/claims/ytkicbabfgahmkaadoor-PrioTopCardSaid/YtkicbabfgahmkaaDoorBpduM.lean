/- What bridges tell each other, as plain data: what is written, what is read. No program in sight. -/
import Derived.Test.YtkicbabfgahmkaaDoorLacpM
set_option linter.all false
namespace Go.Proofs.YtkicbabfgahmkaaDoor
structure Br where
  prio : Int
  ext : Int
  ad : Ad
deriving DecidableEq, Inhabited
structure Pt where
  prio : Int
  no : Int
deriving DecidableEq, Inhabited
structure Fl where
  change : Bool
  proposal : Bool
  role : Int
  learn : Bool
  pass : Bool
  agree : Bool
  ack : Bool
deriving DecidableEq, Inhabited
def Br.okB (b : Br) : Bool := decide (0 ≤ b.prio) && (decide (b.prio ≤ 61440) && (decide (b.prio % 4096 = 0) && (decide (0 ≤ b.ext) && decide (b.ext ≤ 4095))))
def Pt.okB (p : Pt) : Bool := decide (0 ≤ p.prio) && (decide (p.prio ≤ 240) && (decide (p.prio % 16 = 0) && (decide (1 ≤ p.no) && decide (p.no ≤ 4095))))
theorem Br.ok_iff {b : Br} : b.okB = true ↔ 0 ≤ b.prio ∧ b.prio ≤ 61440 ∧ b.prio % 4096 = 0 ∧ 0 ≤ b.ext ∧ b.ext ≤ 4095 := by simp [Br.okB]
theorem Pt.ok_iff {p : Pt} : p.okB = true ↔ 0 ≤ p.prio ∧ p.prio ≤ 240 ∧ p.prio % 16 = 0 ∧ 1 ≤ p.no ∧ p.no ≤ 4095 := by simp [Pt.okB]
def Br.bytes (b : Br) : List UInt8 := beBytes (b.prio + b.ext).toNat 2 ++ b.ad.list
def Pt.bytes (p : Pt) : List UInt8 := beBytes (p.prio * 256 + p.no).toNat 2
theorem Br.bytes_len (b : Br) : b.bytes.length = 8 := by simp [Br.bytes, beBytes_len, Ad.list]
theorem Pt.bytes_len (p : Pt) : p.bytes.length = 2 := beBytes_len _ _
def readBrM (R : RS) : Br × RS := (⟨((numM R 2).1 / 4096 * 4096 : Nat), ((numM R 2).1 % 4096 : Nat), Ad.of (bytesM (numM R 2).2 6).1⟩, (bytesM (numM R 2).2 6).2)
def readPtM (R : RS) : Pt × RS := (⟨((numM R 2).1 / 4096 * 16 : Nat), ((numM R 2).1 % 4096 : Nat)⟩, if (numM R 2).2.err = none ∧ (numM R 2).1 % 4096 = 0 then failM (numM R 2).2 2 (R.place : Int) else (numM R 2).2)
theorem RS.ok.br {R : RS} (h : R.ok) : (readBrM R).2.ok := (h.num 2).bytes 6
theorem RS.ok.pt {R : RS} (h : R.ok) : (readPtM R).2.ok := by
  unfold readPtM
  simp only []
  split
  · exact (h.num 2).fail _ _
  · exact h.num 2
theorem readBr_left {R : RS} {b : Br} {rest : List UInt8} (hb : b.okB = true) (h : R.Left (b.bytes ++ rest)) : readBrM R = (b, (R.skip 2).skip 6) ∧ ((R.skip 2).skip 6).Left rest := by
  obtain ⟨h1, h2, h3, h4, h5⟩ := Br.ok_iff.1 hb
  have g0 : R.Left (beBytes (b.prio + b.ext).toNat 2 ++ (b.ad.list ++ rest)) := by simpa [Br.bytes, List.append_assoc] using h
  have g1 := g0.skip (beBytes_len _ 2)
  have g2 := g1.skip (Ad.len _)
  refine ⟨?_, g2⟩
  unfold readBrM
  rw [numM_be g0 (by omega), bytesM_left g1 (Ad.len _), Ad.of_list]
  cases b
  simp only [Prod.mk.injEq, Br.mk.injEq, and_true, true_and] at *
  omega
theorem readPt_left {R : RS} {p : Pt} {rest : List UInt8} (hp : p.okB = true) (h : R.Left (p.bytes ++ rest)) : readPtM R = (p, R.skip 2) ∧ (R.skip 2).Left rest := by
  obtain ⟨h1, h2, h3, h4, h5⟩ := Pt.ok_iff.1 hp
  have g0 : R.Left (beBytes (p.prio * 256 + p.no).toNat 2 ++ rest) := h
  have g1 := g0.skip (beBytes_len _ 2)
  refine ⟨?_, g1⟩
  unfold readPtM
  rw [numM_be g0 (by omega)]
  simp only []
  rw [if_neg (by omega)]
  cases p
  simp only [Prod.mk.injEq, Pt.mk.injEq, and_true, true_and] at *
  omega
/-- What was read without an error stood there, and may be. -/
theorem readBr_back {R : RS} (hok : R.ok) (h : (readBrM R).2.err = none) : ∃ rest, R.Left ((readBrM R).1.bytes ++ rest) ∧ (readBrM R).1.okB = true ∧ (readBrM R).2.Left rest := by
  have h0 : (bytesM (numM R 2).2 6).2.err = none := h
  have h1 : (numM R 2).2.err = none := bytesM_err h0
  obtain ⟨c, rest, a1, a2, a3, a4⟩ := numM_back hok h1
  rw [a3] at h0
  obtain ⟨d, rest', b1, b2, b3, b4⟩ := bytesM_back a4.ok h0
  have hr : rest = d ++ rest' := a4.left.symm.trans b2.left
  have hlt : beNum c < 65536 := by have := beNum_lt c; rw [a1] at this; omega
  have e : readBrM R = (⟨((beNum c / 4096 * 4096 : Nat) : Int), ((beNum c % 4096 : Nat) : Int), Ad.of d⟩, (R.skip 2).skip 6) := by
    unfold readBrM; rw [a3]; simp only []; rw [b3]
  rw [e]
  refine ⟨rest', ?_, ?_, b4⟩
  · have hc : beBytes (((beNum c / 4096 * 4096 : Nat) : Int) + ((beNum c % 4096 : Nat) : Int)).toNat 2 = c := by
      rw [show (((beNum c / 4096 * 4096 : Nat) : Int) + ((beNum c % 4096 : Nat) : Int)).toNat = beNum c by omega, ← a1]
      exact beBytes_beNum c
    unfold Br.bytes
    simp only []
    rw [hc, Ad.list_of b1, List.append_assoc, ← hr]
    exact a2
  · rw [Br.ok_iff]
    simp only []
    omega
theorem readPt_back {R : RS} (hok : R.ok) (h : (readPtM R).2.err = none) : ∃ rest, R.Left ((readPtM R).1.bytes ++ rest) ∧ (readPtM R).1.okB = true ∧ (readPtM R).2.Left rest := by
  unfold readPtM at h
  simp only [] at h
  split at h
  · exact (failM_back h).elim
  · rename_i hn
    obtain ⟨c, rest, a1, a2, a3, a4⟩ := numM_back hok h
    have hlt : beNum c < 65536 := by have := beNum_lt c; rw [a1] at this; omega
    rw [a3] at hn
    simp only [] at hn
    have hne : ¬ beNum c % 4096 = 0 := fun e => hn ⟨a4.none, e⟩
    have e : readPtM R = (⟨((beNum c / 4096 * 16 : Nat) : Int), ((beNum c % 4096 : Nat) : Int)⟩, R.skip 2) := by
      unfold readPtM; rw [a3]; simp only []; rw [if_neg hn]
    rw [e]
    refine ⟨rest, ?_, ?_, a4⟩
    · have hc : beBytes (((beNum c / 4096 * 16 : Nat) : Int) * 256 + ((beNum c % 4096 : Nat) : Int)).toNat 2 = c := by
        rw [show (((beNum c / 4096 * 16 : Nat) : Int) * 256 + ((beNum c % 4096 : Nat) : Int)).toNat = beNum c by omega, ← a1]
        exact beBytes_beNum c
      unfold Pt.bytes
      simp only []
      rw [hc]
      exact a2
    · rw [Pt.ok_iff]
      simp only []
      omega
/-! ### Flags -/
def bitN (b : Bool) : Nat := if b then 1 else 0
def Fl.okB (f : Fl) : Bool := decide (0 ≤ f.role) && decide (f.role ≤ 3)
def Fl.byte (f : Fl) : Nat := bitN f.change + 2 * bitN f.proposal + 4 * f.role.toNat + 16 * bitN f.learn + 32 * bitN f.pass + 64 * bitN f.agree + 128 * bitN f.ack
def Fl.of (n : Nat) : Fl := ⟨decide (n % 2 = 1), decide (n / 2 % 2 = 1), ((n / 4 % 4 : Nat) : Int), decide (n / 16 % 2 = 1), decide (n / 32 % 2 = 1), decide (n / 64 % 2 = 1), decide (n / 128 % 2 = 1)⟩
theorem bitN_lt (b : Bool) : bitN b ≤ 1 := by cases b <;> decide
theorem bitN_dec (b : Bool) : decide (bitN b = 1) = b := by cases b <;> rfl
theorem bitN_of (n : Nat) : bitN (decide (n % 2 = 1)) = n % 2 := by
  unfold bitN
  by_cases h : n % 2 = 1
  · simp [h]
  · simp [h]; omega
theorem Fl.byte_lt (f : Fl) (h : f.okB = true) : f.byte < 256 := by
  simp only [Fl.okB, Bool.and_eq_true, decide_eq_true_eq] at h
  have := bitN_lt f.change; have := bitN_lt f.proposal; have := bitN_lt f.learn; have := bitN_lt f.pass; have := bitN_lt f.agree; have := bitN_lt f.ack
  unfold Fl.byte; omega
theorem Fl.of_byte (f : Fl) (h : f.okB = true) : Fl.of f.byte = f := by
  simp only [Fl.okB, Bool.and_eq_true, decide_eq_true_eq] at h
  obtain ⟨c, p, r, l, s, g, a⟩ := f
  simp only [] at h
  have h1 := bitN_lt c; have h2 := bitN_lt p; have h3 := bitN_lt l; have h4 := bitN_lt s; have h5 := bitN_lt g; have h6 := bitN_lt a
  unfold Fl.of Fl.byte
  simp only []
  rw [show (bitN c + 2 * bitN p + 4 * r.toNat + 16 * bitN l + 32 * bitN s + 64 * bitN g + 128 * bitN a) % 2 = bitN c by omega,
    show (bitN c + 2 * bitN p + 4 * r.toNat + 16 * bitN l + 32 * bitN s + 64 * bitN g + 128 * bitN a) / 2 % 2 = bitN p by omega,
    show (bitN c + 2 * bitN p + 4 * r.toNat + 16 * bitN l + 32 * bitN s + 64 * bitN g + 128 * bitN a) / 4 % 4 = r.toNat by omega,
    show (bitN c + 2 * bitN p + 4 * r.toNat + 16 * bitN l + 32 * bitN s + 64 * bitN g + 128 * bitN a) / 16 % 2 = bitN l by omega,
    show (bitN c + 2 * bitN p + 4 * r.toNat + 16 * bitN l + 32 * bitN s + 64 * bitN g + 128 * bitN a) / 32 % 2 = bitN s by omega,
    show (bitN c + 2 * bitN p + 4 * r.toNat + 16 * bitN l + 32 * bitN s + 64 * bitN g + 128 * bitN a) / 64 % 2 = bitN g by omega,
    show (bitN c + 2 * bitN p + 4 * r.toNat + 16 * bitN l + 32 * bitN s + 64 * bitN g + 128 * bitN a) / 128 % 2 = bitN a by omega]
  simp only [bitN_dec, show ((r.toNat : Nat) : Int) = r by omega]
theorem Fl.byte_of (n : Nat) (h : n < 256) : (Fl.of n).byte = n := by
  unfold Fl.byte Fl.of
  simp only [bitN_of, Int.toNat_natCast]
  omega
theorem Fl.of_ok (n : Nat) : (Fl.of n).okB = true := by
  have h : (Fl.of n).role = ((n / 4 % 4 : Nat) : Int) := rfl
  have h1 : (0 : Int) ≤ ((n / 4 % 4 : Nat) : Int) := Int.natCast_nonneg _
  have h2 : ((n / 4 % 4 : Nat) : Int) ≤ 3 := by omega
  unfold Fl.okB
  rw [h, Bool.and_eq_true]
  exact ⟨decide_eq_true h1, decide_eq_true h2⟩
end Go.Proofs.YtkicbabfgahmkaaDoor

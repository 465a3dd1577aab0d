/- Links of links, as plain data: what is written, what is read. No program in sight. -/
import Derived.Test.YtkicbabfgahmkaaDoorRsL
import Derived.Test.YtkicbabfgahmkaaDoorAd
set_option linter.all false
namespace Go.Proofs.YtkicbabfgahmkaaDoor
/-- Six bytes that are copied into an array of noughts. -/
def Ad.of (l : List UInt8) : Ad := ⟨l.getD 0 0, l.getD 1 0, l.getD 2 0, l.getD 3 0, l.getD 4 0, l.getD 5 0⟩
theorem Ad.of_list (x : Ad) : Ad.of x.list = x := rfl
theorem Ad.len (x : Ad) : x.list.length = 6 := rfl
theorem Ad.list_of {l : List UInt8} (h : l.length = 6) : (Ad.of l).list = l := by
  match l, h with
  | [_, _, _, _, _, _], _ => rfl
structure Pty where
  sp : Int
  sys : Ad
  key : Int
  pp : Int
  port : Int
  st : Int
deriving DecidableEq, Inhabited
structure Lac where
  ac : Pty
  pa : Pty
  delay : Int
deriving DecidableEq, Inhabited
def sh (n : Int) : Bool := decide (0 ≤ n) && decide (n ≤ 65535)
theorem sh_iff {n : Int} : sh n = true ↔ 0 ≤ n ∧ n ≤ 65535 := by simp [sh]
def Pty.okB (p : Pty) : Bool := sh p.sp && sh p.key && sh p.pp && sh p.port && (decide (0 ≤ p.st) && decide (p.st ≤ 255))
def Lac.okB (l : Lac) : Bool := l.ac.okB && l.pa.okB && sh l.delay
structure Pty.Ok (p : Pty) : Prop where
  sp0 : 0 ≤ p.sp
  sp1 : p.sp ≤ 65535
  key0 : 0 ≤ p.key
  key1 : p.key ≤ 65535
  pp0 : 0 ≤ p.pp
  pp1 : p.pp ≤ 65535
  port0 : 0 ≤ p.port
  port1 : p.port ≤ 65535
  st0 : 0 ≤ p.st
  st1 : p.st ≤ 255
theorem Pty.ok_iff {p : Pty} : p.okB = true ↔ p.Ok := by
  constructor
  · intro h
    simp only [Pty.okB, sh, Bool.and_eq_true, decide_eq_true_eq] at h
    obtain ⟨⟨⟨⟨⟨a, b⟩, c, d⟩, e, f⟩, g, i⟩, j, k⟩ := h
    exact ⟨a, b, c, d, e, f, g, i, j, k⟩
  · rintro ⟨a, b, c, d, e, f, g, i, j, k⟩
    simp only [Pty.okB, sh, Bool.and_eq_true, decide_eq_true_eq]
    exact ⟨⟨⟨⟨⟨a, b⟩, c, d⟩, e, f⟩, g, i⟩, j, k⟩
theorem Lac.ok_iff {l : Lac} : l.okB = true ↔ l.ac.Ok ∧ l.pa.Ok ∧ 0 ≤ l.delay ∧ l.delay ≤ 65535 := by
  simp only [Lac.okB, Bool.and_eq_true, Pty.ok_iff, sh_iff]
  constructor
  · rintro ⟨⟨a, b⟩, c⟩; exact ⟨a, b, c⟩
  · rintro ⟨a, b, c⟩; exact ⟨⟨a, b⟩, c⟩
/-- A side as bytes, but for its last three. -/
def sideC (kind : Nat) (p : Pty) : List UInt8 := beBytes kind 1 ++ [0x14] ++ beBytes p.sp.toNat 2 ++ p.sys.list ++ beBytes p.key.toNat 2 ++ beBytes p.pp.toNat 2 ++ beBytes p.port.toNat 2 ++ beBytes p.st.toNat 1
def sideB (kind : Nat) (p : Pty) : List UInt8 := sideC kind p ++ [0, 0, 0]
theorem sideC_len (kind : Nat) (p : Pty) : (sideC kind p).length = 17 := by simp [sideC, beBytes_len, Ad.list]
theorem sideB_len (kind : Nat) (p : Pty) : (sideB kind p).length = 20 := by simp [sideB, sideC_len]
/-- The bytes, with those that stand for nothing. -/
def Lac.bytesF (l : Lac) (f1 f2 f3 f4 : List UInt8) : List UInt8 := [1, 1] ++ (sideC 1 l.ac ++ f1) ++ (sideC 2 l.pa ++ f2) ++ [3, 16] ++ beBytes l.delay.toNat 2 ++ f3 ++ [0, 0] ++ f4
def Lac.bytes (l : Lac) : List UInt8 := [1, 1] ++ sideB 1 l.ac ++ sideB 2 l.pa ++ [3, 16] ++ beBytes l.delay.toNat 2 ++ List.replicate 64 0
theorem Lac.bytes_eq (l : Lac) : l.bytes = l.bytesF [0, 0, 0] [0, 0, 0] (List.replicate 12 0) (List.replicate 50 0) := by
  unfold Lac.bytes Lac.bytesF sideB
  simp only [List.append_assoc]
  rfl
theorem Lac.bytes_len (l : Lac) : l.bytes.length = 110 := by simp [Lac.bytes, sideB_len, beBytes_len]
def readSideM (R : RS) (kind : Nat) : Pty × RS :=
  let R0 := headM R (beBytes kind 1 ++ [0x14])
  let n1 := numM R0 2
  let b2 := bytesM n1.2 6
  let n3 := numM b2.2 2
  let n4 := numM n3.2 2
  let n5 := numM n4.2 2
  let n6 := numM n5.2 1
  (⟨n1.1, Ad.of b2.1, n3.1, n4.1, n5.1, n6.1⟩, (bytesM n6.2 3).2)
def readLacM (s : List UInt8) : Lac × Bool × RS :=
  let R0 := headM (newM s 0) [1, 1]
  let a := readSideM R0 1
  let p := readSideM a.2 2
  let R3 := headM p.2 [3, 16]
  let d := numM R3 2
  let b := bytesM d.2 12
  let R5 := headM b.2 [0, 0]
  let c := bytesM R5 50
  (⟨a.1, p.1, d.1⟩, zerosM c.2)
theorem RS.ok.side {R : RS} (h : R.ok) (kind : Nat) : (readSideM R kind).2.ok := by
  unfold readSideM
  exact (((((((h.head _).num 2).bytes 6).num 2).num 2).num 2).num 1).bytes 3
theorem readSide_left {R : RS} {kind : Nat} {p : Pty} {f rest : List UInt8} (hp : p.Ok) (hf : f.length = 3) (h : R.Left (sideC kind p ++ f ++ rest)) : ∃ R', readSideM R kind = (p, R') ∧ R'.Left rest := by
  have h0 : R.Left ((beBytes kind 1 ++ [0x14]) ++ (beBytes p.sp.toNat 2 ++ (p.sys.list ++ (beBytes p.key.toNat 2 ++ (beBytes p.pp.toNat 2 ++ (beBytes p.port.toNat 2 ++ (beBytes p.st.toNat 1 ++ (f ++ rest)))))))) := by
    simpa [sideC, List.append_assoc] using h
  obtain ⟨a, b, c, d, e, g, i, j, k, l⟩ := hp
  have h1 := h0.skip rfl
  have h2 := h1.skip (beBytes_len _ 2)
  have h3 := h2.skip (Ad.len _)
  have h4 := h3.skip (beBytes_len _ 2)
  have h5 := h4.skip (beBytes_len _ 2)
  have h6 := h5.skip (beBytes_len _ 2)
  have h7 := h6.skip (beBytes_len _ 1)
  have h8 := h7.skip hf
  refine ⟨_, ?_, h8⟩
  unfold readSideM
  simp only [headM_left h0, numM_be h1 (show p.sp.toNat < 256 ^ 2 by omega), bytesM_left h2 (Ad.len _), numM_be h3 (show p.key.toNat < 256 ^ 2 by omega), numM_be h4 (show p.pp.toNat < 256 ^ 2 by omega), numM_be h5 (show p.port.toNat < 256 ^ 2 by omega), numM_be h6 (show p.st.toNat < 256 ^ 1 by omega), bytesM_left h7 hf, Ad.of_list]
  cases p
  simp only [Prod.mk.injEq, Pty.mk.injEq, and_true, true_and] at *
  omega
theorem readLac_left (l : Lac) (f1 f2 f3 f4 : List UInt8) (hl : l.okB = true) (h1 : f1.length = 3) (h2 : f2.length = 3) (h3 : f3.length = 12) (h4 : f4.length = 50) : ∃ R, readLacM (l.bytesF f1 f2 f3 f4) = (l, true, R) ∧ R.err = none := by
  obtain ⟨ha, hp, hd0, hd1⟩ := Lac.ok_iff.1 hl
  have hlen : (l.bytesF f1 f2 f3 f4).length = 110 := by simp [Lac.bytesF, sideC_len, beBytes_len, h1, h2, h3, h4]
  have g0 : (newM (l.bytesF f1 f2 f3 f4) 0).Left ([1, 1] ++ ((sideC 1 l.ac ++ f1) ++ ((sideC 2 l.pa ++ f2) ++ ([3, 16] ++ (beBytes l.delay.toNat 2 ++ (f3 ++ ([0, 0] ++ (f4 ++ [])))))))) := by
    have := newM_left (l.bytesF f1 f2 f3 f4) 0 (by omega)
    simpa [Lac.bytesF, List.append_assoc] using this
  have g1 := g0.skip rfl
  obtain ⟨Ra, ea, g2⟩ := readSide_left (kind := 1) ha h1 g1
  obtain ⟨Rp, ep, g3⟩ := readSide_left (kind := 2) hp h2 g2
  have g4 := g3.skip rfl
  have g5 := g4.skip (beBytes_len _ 2)
  have g6 := g5.skip h3
  have g7 := g6.skip rfl
  have g8 := g7.skip h4
  refine ⟨{ (((((Rp.skip 2).skip 2).skip 12).skip 2).skip 50) with at_ := (((((Rp.skip 2).skip 2).skip 12).skip 2).skip 50).s.length }, ?_, g8.none⟩
  · unfold readLacM
    simp only [headM_left g0, ea, ep, headM_left g3, numM_be g4 (show l.delay.toNat < 256 ^ 2 by omega), bytesM_left g5 h3, headM_left g6, bytesM_left g7 h4, zerosM_left g8 (by simp)]
    rw [show ((l.delay.toNat : Nat) : Int) = l.delay by omega]
    rfl
/-- A byte that stands for nothing, changed. -/
theorem Lac.bytesF_set (l : Lac) (f1 f2 f3 f4 : List UInt8) (h1 : f1.length = 3) (h2 : f2.length = 3) (h3 : f3.length = 12) (h4 : f4.length = 50) (k : Nat) (c : UInt8)
    (hk : (19 ≤ k ∧ k ≤ 21) ∨ (39 ≤ k ∧ k ≤ 41) ∨ (46 ≤ k ∧ k ≤ 57) ∨ (60 ≤ k ∧ k ≤ 109)) : ∃ g1 g2 g3 g4, g1.length = 3 ∧ g2.length = 3 ∧ g3.length = 12 ∧ g4.length = 50 ∧ (l.bytesF f1 f2 f3 f4).set k c = l.bytesF g1 g2 g3 g4 := by
  have hA : ([1, 1] ++ sideC 1 l.ac : List UInt8).length = 19 := by simp [sideC_len]
  have hB : (sideC 2 l.pa).length = 17 := sideC_len _ _
  have hC : ([3, 16] ++ beBytes l.delay.toNat 2 : List UInt8).length = 4 := by simp [beBytes_len]
  have e : ∀ a b c d, l.bytesF a b c d = ([1, 1] ++ sideC 1 l.ac) ++ (a ++ (sideC 2 l.pa ++ (b ++ (([3, 16] ++ beBytes l.delay.toNat 2) ++ (c ++ ([0, 0] ++ d)))))) := fun a b c d => by simp [Lac.bytesF, List.append_assoc]
  simp only [e]
  generalize ([1, 1] ++ sideC 1 l.ac : List UInt8) = A at *
  generalize sideC 2 l.pa = B at *
  generalize ([3, 16] ++ beBytes l.delay.toNat 2 : List UInt8) = C at *
  rcases hk with hk | hk | hk | hk
  · refine ⟨f1.set (k - 19) c, f2, f3, f4, by simpa using h1, h2, h3, h4, ?_⟩
    rw [List.set_append_right _ _ (by omega), List.set_append_left _ _ (by omega), hA]
  · refine ⟨f1, f2.set (k - 39) c, f3, f4, h1, by simpa using h2, h3, h4, ?_⟩
    rw [List.set_append_right _ _ (by omega), List.set_append_right _ _ (by omega), List.set_append_right _ _ (by omega), List.set_append_left _ _ (by omega), hA, hB, h1]
    congr 5
  · refine ⟨f1, f2, f3.set (k - 46) c, f4, h1, h2, by simpa using h3, h4, ?_⟩
    rw [List.set_append_right _ _ (by omega), List.set_append_right _ _ (by omega), List.set_append_right _ _ (by omega), List.set_append_right _ _ (by omega), List.set_append_right _ _ (by omega), List.set_append_left _ _ (by omega), hA, hB, h1, hC, h2]
    congr 7
  · refine ⟨f1, f2, f3, f4.set (k - 60) c, h1, h2, h3, by simpa using h4, ?_⟩
    rw [List.set_append_right _ _ (by omega), List.set_append_right _ _ (by omega), List.set_append_right _ _ (by omega), List.set_append_right _ _ (by omega), List.set_append_right _ _ (by omega), List.set_append_right _ _ (by omega), List.set_append_right _ _ (by simp; omega), hA, hB, h1, hC, h2, h3]
    congr 8
end Go.Proofs.YtkicbabfgahmkaaDoor

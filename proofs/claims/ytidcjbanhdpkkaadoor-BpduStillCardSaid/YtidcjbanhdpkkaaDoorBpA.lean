/- What bridges tell each other, as plain data: what is written, what is read. No program in sight. BPDUs, as plain data: what is written, what is read. No program in sight. A text that is cut: reading runs out. No program in sight. BPDUs that are cut, and that are read back, as plain data. No program in sight. bpdu.Flags, bpdu.Byte, bpdu.Of. prio: Right, Port, Pack, PackPort. bpdu: Flags, Byte, Of. Equality of flags, names and BPDUs, decided. bpdu: times, Right, head. prio.Read, prio.ReadPort. bpdu.ReadBody. bpdu.head, bpdu.Body, bpdu.Write. bpdu.Write. bpdu.Read, whatever is read. The fact of a BPDU. BpduBack, BpduStill. -/
import Derived.Test.YtidcjbanhdpkkaaDoorLacpM
import Derived.Test.YtidcjbanhdpkkaaDoorRsL
import Derived.Test.YtidcjbanhdpkkaaDoorRows
import Derived.Test.YtidcjbanhdpkkaaDoorKit
import Derived.Test.YtidcjbanhdpkkaaDoorWireAid
import Derived.Test.YtidcjbanhdpkkaaDoorLacp3
import Derived.Test.YtidcjbanhdpkkaaDoorQuietTail
import Derived.StillTailTactics
import Derived.Test.YtidcjbanhdpkkaaDoorLacp9
import Derived.Deep.CutBlock
import Derived.Test.YtidcjbanhdpkkaaDoorLacp4
import Derived.Test.YtidcjbanhdpkkaaDoorPick
import Derived.Test.YtidcjbanhdpkkaaDoorOpenF
import Derived.Test.YtidcjbanhdpkkaaDoorTell2At
namespace Go.Proofs.YtidcjbanhdpkkaaDoor
structure Br where
  prio : Int
  ext : Int
  ad : Ad
deriving DecidableEq, Inhabited
structure Pt where
  prio : Int
  no : Int
deriving DecidableEq, Inhabited
structure Fl where
  change : Bool
  proposal : Bool
  role : Int
  learn : Bool
  pass : Bool
  agree : Bool
  ack : Bool
deriving DecidableEq, Inhabited
def Br.okB (b : Br) : Bool := decide (0 ≤ b.prio) && (decide (b.prio ≤ 61440) && (decide (b.prio % 4096 = 0) && (decide (0 ≤ b.ext) && decide (b.ext ≤ 4095))))
def Pt.okB (p : Pt) : Bool := decide (0 ≤ p.prio) && (decide (p.prio ≤ 240) && (decide (p.prio % 16 = 0) && (decide (1 ≤ p.no) && decide (p.no ≤ 4095))))
theorem Br.ok_iff {b : Br} : b.okB = true ↔ 0 ≤ b.prio ∧ b.prio ≤ 61440 ∧ b.prio % 4096 = 0 ∧ 0 ≤ b.ext ∧ b.ext ≤ 4095 := by simp [Br.okB]
theorem Pt.ok_iff {p : Pt} : p.okB = true ↔ 0 ≤ p.prio ∧ p.prio ≤ 240 ∧ p.prio % 16 = 0 ∧ 1 ≤ p.no ∧ p.no ≤ 4095 := by simp [Pt.okB]
def Br.bytes (b : Br) : List UInt8 := beBytes (b.prio + b.ext).toNat 2 ++ b.ad.list
def Pt.bytes (p : Pt) : List UInt8 := beBytes (p.prio * 256 + p.no).toNat 2
theorem Br.bytes_len (b : Br) : b.bytes.length = 8 := by simp [Br.bytes, beBytes_len, Ad.list]
theorem Pt.bytes_len (p : Pt) : p.bytes.length = 2 := beBytes_len _ _
def readBrM (R : RS) : Br × RS := (⟨((numM R 2).1 / 4096 * 4096 : Nat), ((numM R 2).1 % 4096 : Nat), Ad.of (bytesM (numM R 2).2 6).1⟩, (bytesM (numM R 2).2 6).2)
def readPtM (R : RS) : Pt × RS := (⟨((numM R 2).1 / 4096 * 16 : Nat), ((numM R 2).1 % 4096 : Nat)⟩, if (numM R 2).2.err = none ∧ (numM R 2).1 % 4096 = 0 then failM (numM R 2).2 2 (R.place : Int) else (numM R 2).2)
theorem RS.ok.br {R : RS} (h : R.ok) : (readBrM R).2.ok := (h.num 2).bytes 6
theorem RS.ok.pt {R : RS} (h : R.ok) : (readPtM R).2.ok := by
  unfold readPtM
  simp only []
  split
  · exact (h.num 2).fail _ _
  · exact h.num 2
theorem readBr_left {R : RS} {b : Br} {rest : List UInt8} (hb : b.okB = true) (h : R.Left (b.bytes ++ rest)) : readBrM R = (b, (R.skip 2).skip 6) ∧ ((R.skip 2).skip 6).Left rest := by
  obtain ⟨h1, h2, h3, h4, h5⟩ := Br.ok_iff.1 hb
  have g0 : R.Left (beBytes (b.prio + b.ext).toNat 2 ++ (b.ad.list ++ rest)) := by simpa [Br.bytes, List.append_assoc] using h
  have g1 := g0.skip (beBytes_len _ 2)
  have g2 := g1.skip (Ad.len _)
  refine ⟨?_, g2⟩
  unfold readBrM
  rw [numM_be g0 (by omega), bytesM_left g1 (Ad.len _), Ad.of_list]
  cases b
  simp only [Prod.mk.injEq, Br.mk.injEq, and_true, true_and] at *
  omega
theorem readPt_left {R : RS} {p : Pt} {rest : List UInt8} (hp : p.okB = true) (h : R.Left (p.bytes ++ rest)) : readPtM R = (p, R.skip 2) ∧ (R.skip 2).Left rest := by
  obtain ⟨h1, h2, h3, h4, h5⟩ := Pt.ok_iff.1 hp
  have g0 : R.Left (beBytes (p.prio * 256 + p.no).toNat 2 ++ rest) := h
  have g1 := g0.skip (beBytes_len _ 2)
  refine ⟨?_, g1⟩
  unfold readPtM
  rw [numM_be g0 (by omega)]
  simp only []
  rw [if_neg (by omega)]
  cases p
  simp only [Prod.mk.injEq, Pt.mk.injEq, and_true, true_and] at *
  omega
/-- What was read without an error stood there, and may be. -/
theorem readBr_back {R : RS} (hok : R.ok) (h : (readBrM R).2.err = none) : ∃ rest, R.Left ((readBrM R).1.bytes ++ rest) ∧ (readBrM R).1.okB = true ∧ (readBrM R).2.Left rest := by
  have h0 : (bytesM (numM R 2).2 6).2.err = none := h
  have h1 : (numM R 2).2.err = none := bytesM_err h0
  obtain ⟨c, rest, a1, a2, a3, a4⟩ := numM_back hok h1
  rw [a3] at h0
  obtain ⟨d, rest', b1, b2, b3, b4⟩ := bytesM_back a4.ok h0
  have hr : rest = d ++ rest' := a4.left.symm.trans b2.left
  have hlt : beNum c < 65536 := by have := beNum_lt c; rw [a1] at this; omega
  have e : readBrM R = (⟨((beNum c / 4096 * 4096 : Nat) : Int), ((beNum c % 4096 : Nat) : Int), Ad.of d⟩, (R.skip 2).skip 6) := by
    unfold readBrM; rw [a3]; simp only []; rw [b3]
  rw [e]
  refine ⟨rest', ?_, ?_, b4⟩
  · have hc : beBytes (((beNum c / 4096 * 4096 : Nat) : Int) + ((beNum c % 4096 : Nat) : Int)).toNat 2 = c := by
      rw [show (((beNum c / 4096 * 4096 : Nat) : Int) + ((beNum c % 4096 : Nat) : Int)).toNat = beNum c by omega, ← a1]
      exact beBytes_beNum c
    unfold Br.bytes
    simp only []
    rw [hc, Ad.list_of b1, List.append_assoc, ← hr]
    exact a2
  · rw [Br.ok_iff]
    simp only []
    omega
theorem readPt_back {R : RS} (hok : R.ok) (h : (readPtM R).2.err = none) : ∃ rest, R.Left ((readPtM R).1.bytes ++ rest) ∧ (readPtM R).1.okB = true ∧ (readPtM R).2.Left rest := by
  unfold readPtM at h
  simp only [] at h
  split at h
  · exact (failM_back h).elim
  · rename_i hn
    obtain ⟨c, rest, a1, a2, a3, a4⟩ := numM_back hok h
    have hlt : beNum c < 65536 := by have := beNum_lt c; rw [a1] at this; omega
    rw [a3] at hn
    simp only [] at hn
    have hne : ¬ beNum c % 4096 = 0 := fun e => hn ⟨a4.none, e⟩
    have e : readPtM R = (⟨((beNum c / 4096 * 16 : Nat) : Int), ((beNum c % 4096 : Nat) : Int)⟩, R.skip 2) := by
      unfold readPtM; rw [a3]; simp only []; rw [if_neg hn]
    rw [e]
    refine ⟨rest, ?_, ?_, a4⟩
    · have hc : beBytes (((beNum c / 4096 * 16 : Nat) : Int) * 256 + ((beNum c % 4096 : Nat) : Int)).toNat 2 = c := by
        rw [show (((beNum c / 4096 * 16 : Nat) : Int) * 256 + ((beNum c % 4096 : Nat) : Int)).toNat = beNum c by omega, ← a1]
        exact beBytes_beNum c
      unfold Pt.bytes
      simp only []
      rw [hc]
      exact a2
    · rw [Pt.ok_iff]
      simp only []
      omega
/-! ### Flags -/
def bitN (b : Bool) : Nat := if b then 1 else 0
def Fl.okB (f : Fl) : Bool := decide (0 ≤ f.role) && decide (f.role ≤ 3)
def Fl.byte (f : Fl) : Nat := bitN f.change + 2 * bitN f.proposal + 4 * f.role.toNat + 16 * bitN f.learn + 32 * bitN f.pass + 64 * bitN f.agree + 128 * bitN f.ack
def Fl.of (n : Nat) : Fl := ⟨decide (n % 2 = 1), decide (n / 2 % 2 = 1), ((n / 4 % 4 : Nat) : Int), decide (n / 16 % 2 = 1), decide (n / 32 % 2 = 1), decide (n / 64 % 2 = 1), decide (n / 128 % 2 = 1)⟩
theorem bitN_lt (b : Bool) : bitN b ≤ 1 := by cases b <;> decide
theorem bitN_dec (b : Bool) : decide (bitN b = 1) = b := by cases b <;> rfl
theorem bitN_of (n : Nat) : bitN (decide (n % 2 = 1)) = n % 2 := by
  unfold bitN
  by_cases h : n % 2 = 1
  · simp [h]
  · simp [h]; omega
theorem Fl.byte_lt (f : Fl) (h : f.okB = true) : f.byte < 256 := by
  simp only [Fl.okB, Bool.and_eq_true, decide_eq_true_eq] at h
  have := bitN_lt f.change; have := bitN_lt f.proposal; have := bitN_lt f.learn; have := bitN_lt f.pass; have := bitN_lt f.agree; have := bitN_lt f.ack
  unfold Fl.byte; omega
theorem Fl.of_byte (f : Fl) (h : f.okB = true) : Fl.of f.byte = f := by
  simp only [Fl.okB, Bool.and_eq_true, decide_eq_true_eq] at h
  obtain ⟨c, p, r, l, s, g, a⟩ := f
  simp only [] at h
  have h1 := bitN_lt c; have h2 := bitN_lt p; have h3 := bitN_lt l; have h4 := bitN_lt s; have h5 := bitN_lt g; have h6 := bitN_lt a
  unfold Fl.of Fl.byte
  simp only []
  rw [show (bitN c + 2 * bitN p + 4 * r.toNat + 16 * bitN l + 32 * bitN s + 64 * bitN g + 128 * bitN a) % 2 = bitN c by omega,
    show (bitN c + 2 * bitN p + 4 * r.toNat + 16 * bitN l + 32 * bitN s + 64 * bitN g + 128 * bitN a) / 2 % 2 = bitN p by omega,
    show (bitN c + 2 * bitN p + 4 * r.toNat + 16 * bitN l + 32 * bitN s + 64 * bitN g + 128 * bitN a) / 4 % 4 = r.toNat by omega,
    show (bitN c + 2 * bitN p + 4 * r.toNat + 16 * bitN l + 32 * bitN s + 64 * bitN g + 128 * bitN a) / 16 % 2 = bitN l by omega,
    show (bitN c + 2 * bitN p + 4 * r.toNat + 16 * bitN l + 32 * bitN s + 64 * bitN g + 128 * bitN a) / 32 % 2 = bitN s by omega,
    show (bitN c + 2 * bitN p + 4 * r.toNat + 16 * bitN l + 32 * bitN s + 64 * bitN g + 128 * bitN a) / 64 % 2 = bitN g by omega,
    show (bitN c + 2 * bitN p + 4 * r.toNat + 16 * bitN l + 32 * bitN s + 64 * bitN g + 128 * bitN a) / 128 % 2 = bitN a by omega]
  simp only [bitN_dec, show ((r.toNat : Nat) : Int) = r by omega]
theorem Fl.byte_of (n : Nat) (h : n < 256) : (Fl.of n).byte = n := by
  unfold Fl.byte Fl.of
  simp only [bitN_of, Int.toNat_natCast]
  omega
theorem Fl.of_ok (n : Nat) : (Fl.of n).okB = true := by
  have h : (Fl.of n).role = ((n / 4 % 4 : Nat) : Int) := rfl
  have h1 : (0 : Int) ≤ ((n / 4 % 4 : Nat) : Int) := Int.natCast_nonneg _
  have h2 : ((n / 4 % 4 : Nat) : Int) ≤ 3 := by omega
  unfold Fl.okB
  rw [h, Bool.and_eq_true]
  exact ⟨decide_eq_true h1, decide_eq_true h2⟩
end Go.Proofs.YtidcjbanhdpkkaaDoor
namespace Go.Proofs.YtidcjbanhdpkkaaDoor
structure Bp where
  kind : Int
  fl : Fl
  root : Br
  cost : Int
  sender : Br
  port : Pt
  age : Int
  max : Int
  hello : Int
  wait : Int
deriving DecidableEq, Inhabited
def Ad.zero : Ad := ⟨0, 0, 0, 0, 0, 0⟩
def Br.zero : Br := ⟨0, 0, Ad.zero⟩
def Pt.zero : Pt := ⟨0, 0⟩
def Fl.zero : Fl := ⟨false, false, 0, false, false, false, false⟩
def Bp.zero : Bp := ⟨0, Fl.zero, Br.zero, 0, Br.zero, Pt.zero, 0, 0, 0, 0⟩
def Bp.notice : Bp := { Bp.zero with kind := 2 }
/-- Only Change and Ack. -/
def Fl.two (f : Fl) : Fl := ⟨f.change, false, 0, false, false, false, f.ack⟩
def tm (n : Int) : Bool := decide (0 ≤ n) && decide (n ≤ 65535)
def Bp.restB (b : Bp) : Bool := b.root.okB && (b.sender.okB && (b.port.okB && (decide (0 ≤ b.cost) && (decide (b.cost < 4294967296) && (tm b.age && (tm b.max && (tm b.hello && tm b.wait)))))))
def Bp.okB (b : Bp) : Bool := if b.kind = 2 then decide (b = Bp.notice) else if b.kind = 1 then decide (b.fl = b.fl.two) && b.restB else if b.kind = 3 then b.fl.okB && b.restB else false
structure Bp.Rest (b : Bp) : Prop where
  root : b.root.okB = true
  sender : b.sender.okB = true
  port : b.port.okB = true
  cost0 : 0 ≤ b.cost
  cost1 : b.cost < 4294967296
  age0 : 0 ≤ b.age
  age1 : b.age ≤ 65535
  max0 : 0 ≤ b.max
  max1 : b.max ≤ 65535
  hello0 : 0 ≤ b.hello
  hello1 : b.hello ≤ 65535
  wait0 : 0 ≤ b.wait
  wait1 : b.wait ≤ 65535
theorem Bp.rest_iff {b : Bp} : b.restB = true ↔ b.Rest := by
  constructor
  · intro h
    simp only [Bp.restB, tm, Bool.and_eq_true, decide_eq_true_eq] at h
    obtain ⟨a1, a2, a3, a4, a5, ⟨a6, a7⟩, ⟨a8, a9⟩, ⟨a10, a11⟩, a12, a13⟩ := h
    exact ⟨a1, a2, a3, a4, a5, a6, a7, a8, a9, a10, a11, a12, a13⟩
  · rintro ⟨a1, a2, a3, a4, a5, a6, a7, a8, a9, a10, a11, a12, a13⟩
    simp only [Bp.restB, tm, Bool.and_eq_true, decide_eq_true_eq]
    exact ⟨a1, a2, a3, a4, a5, ⟨a6, a7⟩, ⟨a8, a9⟩, ⟨a10, a11⟩, a12, a13⟩
/-- What stands behind the head. -/
def Bp.body (b : Bp) : List UInt8 := beBytes b.fl.byte 1 ++ b.root.bytes ++ beBytes b.cost.toNat 4 ++ b.sender.bytes ++ b.port.bytes ++ beBytes b.age.toNat 2 ++ beBytes b.max.toNat 2 ++ beBytes b.hello.toNat 2 ++ beBytes b.wait.toNat 2
theorem Bp.body_len (b : Bp) : b.body.length = 31 := by simp [Bp.body, beBytes_len, Br.bytes_len, Pt.bytes_len]
def headB (kind : Int) : List UInt8 := if kind = 1 then [0, 0, 0, 0] else if kind = 2 then [0, 0, 0, 128] else [0, 0, 2, 2]
theorem headB_len (kind : Int) : (headB kind).length = 4 := by
  unfold headB
  split
  · rfl
  · split <;> rfl
def Bp.bytes (b : Bp) : List UInt8 := if b.kind = 2 then headB 2 else if b.kind = 1 then headB 1 ++ b.body else headB 3 ++ b.body ++ [0]
def readBodyM (R : RS) (kind : Int) : Bp × RS :=
  let f := numM R 1
  let a := readBrM f.2
  let c := numM a.2 4
  let s := readBrM c.2
  let p := readPtM s.2
  let n1 := numM p.2 2
  let n2 := numM n1.2 2
  let n3 := numM n2.2 2
  let n4 := numM n3.2 2
  (⟨kind, Fl.of f.1, a.1, c.1, s.1, p.1, n1.1, n2.1, n3.1, n4.1⟩, n4.2)
theorem RS.ok.body {R : RS} (h : R.ok) (kind : Int) : (readBodyM R kind).2.ok := ((((((((h.num 1).br).num 4).br).pt).num 2).num 2).num 2).num 2
/-- Which kind a head is of; 0: of none. -/
def kindM (h : List UInt8 × RS) : Int := if h.2.err = none then (if h.1 = [0, 0, 0, 0] then 1 else if h.1 = [0, 0, 0, 128] then 2 else if h.1 = [0, 0, 2, 2] then 3 else 0) else 0
/-- What is read, ahead of the last look at the error. -/
def readBpM (s : List UInt8) : Bp × RS :=
  let h := bytesM (newM s 0) 4
  let k := kindM h
  if k = 1 then ({ (readBodyM h.2 1).1 with fl := (readBodyM h.2 1).1.fl.two }, (readBodyM h.2 1).2)
  else if k = 3 then
    let b := readBodyM h.2 3
    let n := numM b.2 1
    (b.1, if n.1 ≠ 0 then failM n.2 3 (b.2.place : Int) else n.2)
  else if k = 0 then (Bp.zero, failM h.2 3 0)
  else (Bp.notice, h.2)
theorem readBody_left {R : RS} {b : Bp} {rest : List UInt8} (hb : b.Rest) (hf : b.fl.okB = true) (kind : Int) (h : R.Left (b.body ++ rest)) : ∃ R', readBodyM R kind = ({ b with kind := kind }, R') ∧ R'.Left rest := by
  have g0 : R.Left (beBytes b.fl.byte 1 ++ (b.root.bytes ++ (beBytes b.cost.toNat 4 ++ (b.sender.bytes ++ (b.port.bytes ++ (beBytes b.age.toNat 2 ++ (beBytes b.max.toNat 2 ++ (beBytes b.hello.toNat 2 ++ (beBytes b.wait.toNat 2 ++ rest))))))))) := by
    simpa [Bp.body, List.append_assoc] using h
  have g1 := g0.skip (beBytes_len _ 1)
  obtain ⟨e1, g2⟩ := readBr_left hb.root g1
  have g3 := g2.skip (beBytes_len _ 4)
  obtain ⟨e3, g4⟩ := readBr_left hb.sender g3
  obtain ⟨e4, g5⟩ := readPt_left hb.port g4
  have g6 := g5.skip (beBytes_len _ 2)
  have g7 := g6.skip (beBytes_len _ 2)
  have g8 := g7.skip (beBytes_len _ 2)
  have g9 := g8.skip (beBytes_len _ 2)
  have := Fl.byte_lt _ hf
  obtain ⟨_, _, _, a4, a5, a6, a7, a8, a9, a10, a11, a12, a13⟩ := hb
  refine ⟨_, ?_, g9⟩
  unfold readBodyM
  simp only [numM_be g0 (show b.fl.byte < 256 ^ 1 by omega), e1, numM_be g2 (show b.cost.toNat < 256 ^ 4 by omega), e3, e4, numM_be g5 (show b.age.toNat < 256 ^ 2 by omega), numM_be g6 (show b.max.toNat < 256 ^ 2 by omega), numM_be g7 (show b.hello.toNat < 256 ^ 2 by omega), numM_be g8 (show b.wait.toNat < 256 ^ 2 by omega), Fl.of_byte _ hf]
  cases b
  simp only [Prod.mk.injEq, Bp.mk.injEq, and_true, true_and] at *
  omega
theorem Fl.two_ok (f : Fl) : f.two.okB = true := by simp [Fl.okB, Fl.two]
theorem Fl.two_two (f : Fl) : f.two.two = f.two := rfl
/-- What is written is read, whatever stands behind it. -/
theorem readBp_bytes (b : Bp) (more : List UInt8) (hb : b.okB = true) (hm : (b.bytes ++ more).length ≤ 4611686018427387904) : ∃ R, readBpM (b.bytes ++ more) = (b, R) ∧ R.err = none := by
  have g0 := newM_left (b.bytes ++ more) 0 (by omega)
  unfold Bp.okB at hb
  split at hb
  · rename_i hk
    have hb : b = Bp.notice := by simpa using hb
    subst hb
    have e : Bp.notice.bytes = headB 2 := rfl
    rw [e] at g0 ⊢
    have h1 := bytesM_left g0 (headB_len 2)
    have g1 := g0.skip (headB_len 2)
    refine ⟨_, ?_, g1.none⟩
    unfold readBpM
    simp only [h1]
    have hkm : kindM (headB 2, (newM (headB 2 ++ more) 0).skip 4) = 2 := by unfold kindM; rw [if_pos g1.none]; rfl
    rw [hkm]
    simp
  · rename_i hk2
    split at hb
    · rename_i hk
      simp only [Bool.and_eq_true, decide_eq_true_eq] at hb
      obtain ⟨hf, hr⟩ := hb
      have e : b.bytes = headB 1 ++ b.body := by unfold Bp.bytes; rw [if_neg hk2, if_pos hk]
      rw [e] at g0 ⊢
      rw [List.append_assoc] at g0 ⊢
      have h1 := bytesM_left g0 (headB_len 1)
      have g1 := g0.skip (headB_len 1)
      obtain ⟨R', h2, g2⟩ := readBody_left (Bp.rest_iff.1 hr) (by rw [hf]; exact Fl.two_ok _) 1 g1
      refine ⟨R', ?_, g2.none⟩
      unfold readBpM
      simp only [h1]
      have hkm : kindM (headB 1, (newM (headB 1 ++ (b.body ++ more)) 0).skip 4) = 1 := by unfold kindM; rw [if_pos g1.none]; rfl
      rw [hkm]
      simp only [if_true, h2]
      rw [← hf, ← hk]
    · rename_i hk1
      split at hb
      · rename_i hk
        simp only [Bool.and_eq_true] at hb
        obtain ⟨hf, hr⟩ := hb
        have e : b.bytes ++ more = headB 3 ++ (b.body ++ ([0] ++ more)) := by unfold Bp.bytes; rw [if_neg hk2, if_neg hk1]; simp [List.append_assoc]
        rw [e] at g0 ⊢
        have h1 := bytesM_left g0 (headB_len 3)
        have g1 := g0.skip (headB_len 3)
        obtain ⟨R', h2, g2⟩ := readBody_left (Bp.rest_iff.1 hr) hf 3 g1
        have h3 : numM R' 1 = (0, R'.skip 1) := numM_left g2 rfl
        have g3 := g2.skip (n := 1) rfl
        refine ⟨R'.skip 1, ?_, g3.none⟩
        unfold readBpM
        simp only [h1]
        have hkm : kindM (headB 3, (newM (headB 3 ++ (b.body ++ ([0] ++ more))) 0).skip 4) = 3 := by unfold kindM; rw [if_pos g1.none]; rfl
        rw [hkm, if_neg (by decide), if_pos rfl]
        simp only [h2, h3]
        rw [← hk]
        simp
      · cases hb
theorem num_tm {R : RS} {c : List UInt8} (hc : c.length = 2) : (beNum c : Int) ≤ 65535 ∧ (0 : Int) ≤ beNum c ∧ beBytes ((beNum c : Int)).toNat 2 = c := by
  have := beNum_lt c
  rw [hc] at this
  refine ⟨by omega, by omega, ?_⟩
  rw [Int.toNat_natCast, ← hc]
  exact beBytes_beNum c
theorem readBody_back {R : RS} (kind : Int) (hok : R.ok) (h : (readBodyM R kind).2.err = none) : ∃ rest, R.Left ((readBodyM R kind).1.body ++ rest) ∧ (readBodyM R kind).1.Rest ∧ (readBodyM R kind).1.fl.okB = true ∧ (readBodyM R kind).1.kind = kind ∧ (readBodyM R kind).2.Left rest := by
  have o1 := hok.num 1
  have o2 := o1.br
  have o3 := o2.num 4
  have o4 := o3.br
  have o5 := o4.pt
  have o6 := o5.num 2
  have o7 := o6.num 2
  have o8 := o7.num 2
  have hb : ∀ {R : RS} {n : Nat}, (numM R n).2.err = none → R.err = none := fun h => bytesM_err h
  have hbr : ∀ {R : RS}, (readBrM R).2.err = none → R.err = none := fun h => hb (bytesM_err h)
  have hpt : ∀ {R : RS}, (readPtM R).2.err = none → R.err = none := fun {R} h => by
    unfold readPtM at h
    simp only [] at h
    split at h
    · exact (failM_back h).elim
    · exact hb h
  have h9 : (numM (numM (numM (numM (readPtM (readBrM (numM (readBrM (numM R 1).2).2 4).2).2).2 2).2 2).2 2).2 2).2.err = none := h
  have h8 := hb h9
  have h7 := hb h8
  have h6 := hb h7
  have h5 := hb h6
  have h4 := hpt h5
  have h3 := hbr h4
  have h2 := hb h3
  have h1 := hbr h2
  obtain ⟨c1, r1, l1, L1, e1, G1⟩ := numM_back hok h1
  obtain ⟨r2, L2, k2, G2⟩ := readBr_back o1 h2
  obtain ⟨c3, r3, l3, L3, e3, G3⟩ := numM_back o2 h3
  obtain ⟨r4, L4, k4, G4⟩ := readBr_back o3 h4
  obtain ⟨r5, L5, k5, G5⟩ := readPt_back o4 h5
  obtain ⟨c6, r6, l6, L6, e6, G6⟩ := numM_back o5 h6
  obtain ⟨c7, r7, l7, L7, e7, G7⟩ := numM_back o6 h7
  obtain ⟨c8, r8, l8, L8, e8, G8⟩ := numM_back o7 h8
  obtain ⟨c9, r9, l9, L9, e9, G9⟩ := numM_back o8 h9
  have f1 : (numM R 1).1 = beNum c1 := by rw [e1]
  have f3 : (numM (readBrM (numM R 1).2).2 4).1 = beNum c3 := by rw [e3]
  have f6 : (numM (readPtM (readBrM (numM (readBrM (numM R 1).2).2 4).2).2).2 2).1 = beNum c6 := by rw [e6]
  have f7 : (numM (numM (readPtM (readBrM (numM (readBrM (numM R 1).2).2 4).2).2).2 2).2 2).1 = beNum c7 := by rw [e7]
  have f8 : (numM (numM (numM (readPtM (readBrM (numM (readBrM (numM R 1).2).2 4).2).2).2 2).2 2).2 2).1 = beNum c8 := by rw [e8]
  have f9 : (numM (numM (numM (numM (readPtM (readBrM (numM (readBrM (numM R 1).2).2 4).2).2).2 2).2 2).2 2).2 2).1 = beNum c9 := by rw [e9]
  have G1' : (numM R 1).2.Left r1 := by rw [e1]; exact G1
  have G3' : (numM (readBrM (numM R 1).2).2 4).2.Left r3 := by rw [e3]; exact G3
  have G6' : (numM (readPtM (readBrM (numM (readBrM (numM R 1).2).2 4).2).2).2 2).2.Left r6 := by rw [e6]; exact G6
  have G7' : (numM (numM (readPtM (readBrM (numM (readBrM (numM R 1).2).2 4).2).2).2 2).2 2).2.Left r7 := by rw [e7]; exact G7
  have G8' : (numM (numM (numM (readPtM (readBrM (numM (readBrM (numM R 1).2).2 4).2).2).2 2).2 2).2 2).2.Left r8 := by rw [e8]; exact G8
  have G9' : (numM (numM (numM (numM (readPtM (readBrM (numM (readBrM (numM R 1).2).2 4).2).2).2 2).2 2).2 2).2 2).2.Left r9 := by rw [e9]; exact G9
  have q1 : r1 = _ := G1'.left.symm.trans L2.left
  have q2 : r2 = c3 ++ r3 := G2.left.symm.trans L3.left
  have q3 : r3 = _ := G3'.left.symm.trans L4.left
  have q4 : r4 = _ := G4.left.symm.trans L5.left
  have q5 : r5 = c6 ++ r6 := G5.left.symm.trans L6.left
  have q6 : r6 = c7 ++ r7 := G6'.left.symm.trans L7.left
  have q7 : r7 = c8 ++ r8 := G7'.left.symm.trans L8.left
  have q8 : r8 = c9 ++ r9 := G8'.left.symm.trans L9.left
  obtain ⟨t6, u6, v6⟩ := num_tm (R := R) l6
  obtain ⟨t7, u7, v7⟩ := num_tm (R := R) l7
  obtain ⟨t8, u8, v8⟩ := num_tm (R := R) l8
  obtain ⟨t9, u9, v9⟩ := num_tm (R := R) l9
  have hc1 : beBytes (Fl.of (beNum c1)).byte 1 = c1 := by
    have hlt := beNum_lt c1
    rw [l1] at hlt
    rw [Fl.byte_of _ (by omega), ← l1]
    exact beBytes_beNum c1
  have hlt3 := beNum_lt c3
  rw [l3] at hlt3
  have hc3 : beBytes ((beNum c3 : Int)).toNat 4 = c3 := by
    rw [Int.toNat_natCast, ← l3]
    exact beBytes_beNum c3
  refine ⟨r9, ?_, ⟨k2, k4, k5, ?_, ?_, ?_, ?_, ?_, ?_, ?_, ?_, ?_, ?_⟩, Fl.of_ok _, rfl, G9'⟩
  · have e : (readBodyM R kind).1.body ++ r9 = c1 ++ r1 := by
      rw [q1, q2, q3, q4, q5, q6, q7, q8]
      unfold Bp.body readBodyM
      simp only [f1, f3, f6, f7, f8, f9, hc1, hc3, v6, v7, v8, v9, List.append_assoc]
    rw [e]; exact L1
  all_goals
    unfold readBodyM
    simp only [f3, f6, f7, f8, f9]
    omega
end Go.Proofs.YtidcjbanhdpkkaaDoor
namespace Go.Proofs.YtidcjbanhdpkkaaDoor
/-- What is left is the beginning of l, not the whole of it; or the text has run out. -/
def Cut (R : RS) (l : List UInt8) : Prop := (∃ r, R.Left r ∧ r.length < l.length ∧ ∃ m, l = r ++ m) ∨ ∃ p, R.err = some (7, p)
theorem Cut.nil {R : RS} (h : Cut R []) : ∃ p, R.err = some (7, p) := by
  rcases h with ⟨r, _, h, _⟩ | h
  · simp at h
  · exact h
theorem Cut.had {R : RS} {l : List UInt8} {p : Int} (h : R.err = some (7, p)) : Cut R l := .inr ⟨p, h⟩
theorem Cut.new (t : List UInt8) (k off : Nat) (hk : k < t.length) (hl : off + t.length ≤ 4611686018427387904) : Cut (newM (t.take k) off) t :=
  .inl ⟨t.take k, newM_left _ _ (by rw [List.length_take]; omega), by rw [List.length_take]; omega, t.drop k, (List.take_append_drop k t).symm⟩
theorem Cut.bytes {R : RS} {c rest : List UInt8} (h : Cut R (c ++ rest)) {n : Nat} (hn : c.length = n) : Cut (bytesM R n).2 rest ∧ ((bytesM R n).2.err = none → (bytesM R n).1 = c) := by
  subst hn
  rcases h with ⟨r, hL, hl, m, hm⟩ | ⟨p, hp⟩
  · by_cases hle : c.length ≤ r.length
    · have h1 : r.take c.length = c := by
        have := congrArg (List.take c.length) hm
        rw [List.take_left' rfl, List.take_append_of_le_length hle] at this
        exact this.symm
      have h2 : rest = r.drop c.length ++ m := by
        have := congrArg (List.drop c.length) hm
        rw [List.drop_left' rfl, List.drop_append_of_le_length hle] at this
        exact this
      have hL' : R.Left (c ++ r.drop c.length) := by
        have := List.take_append_drop c.length r
        rw [h1] at this
        rw [this]; exact hL
      have e := bytesM_left hL' rfl
      rw [e]
      refine ⟨.inl ⟨_, hL'.skip rfl, ?_, m, h2⟩, fun _ => rfl⟩
      rw [List.length_append] at hl
      rw [List.length_drop]; omega
    · have hlen := hL.len
      have e := bytesM_no hL.none (n := c.length) (by omega)
      rw [e]
      exact ⟨.inr ⟨_, rfl⟩, fun h => by cases h⟩
  · rw [bytesM_had hp]
    exact ⟨.inr ⟨p, hp⟩, fun h => by rw [hp] at h; cases h⟩
theorem Cut.num {R : RS} {c rest : List UInt8} (h : Cut R (c ++ rest)) {n : Nat} (hn : c.length = n) : Cut (numM R n).2 rest ∧ ((numM R n).2.err = none → (numM R n).1 = beNum c) := by
  obtain ⟨h1, h2⟩ := h.bytes hn
  exact ⟨h1, fun e => by unfold numM; rw [h2 e]⟩
theorem Cut.fail {R : RS} {l : List UInt8} (h : Cut R l) (hne : R.err ≠ none) (e p : Int) : Cut (failM R e p) l := by
  rcases h with ⟨r, hL, _⟩ | ⟨q, hq⟩
  · exact absurd hL.none hne
  · rw [failM_had hq]; exact .inr ⟨q, hq⟩
end Go.Proofs.YtidcjbanhdpkkaaDoor
namespace Go.Proofs.YtidcjbanhdpkkaaDoor
theorem Cut.br {R : RS} {b : Br} {rest : List UInt8} (h : Cut R (b.bytes ++ rest)) : Cut (readBrM R).2 rest := by
  have g0 : Cut R (beBytes (b.prio + b.ext).toNat 2 ++ (b.ad.list ++ rest)) := by simpa [Br.bytes, List.append_assoc] using h
  exact ((g0.num (beBytes_len _ 2)).1.bytes (Ad.len _)).1
theorem Cut.pt {R : RS} {p : Pt} {rest : List UInt8} (hp : p.okB = true) (h : Cut R (p.bytes ++ rest)) : Cut (readPtM R).2 rest := by
  obtain ⟨h1, h2, h3, h4, h5⟩ := Pt.ok_iff.1 hp
  have g0 : Cut R (beBytes (p.prio * 256 + p.no).toNat 2 ++ rest) := h
  obtain ⟨g1, g2⟩ := g0.num (beBytes_len _ 2)
  unfold readPtM
  simp only []
  split
  · rename_i hc
    have := g2 hc.1
    rw [this, beNum_beBytes 2 _ (by omega)] at hc
    omega
  · exact g1
theorem Cut.body {R : RS} {b : Bp} {rest : List UInt8} (hb : b.Rest) (kind : Int) (h : Cut R (b.body ++ rest)) : Cut (readBodyM R kind).2 rest := by
  have g0 : Cut R (beBytes b.fl.byte 1 ++ (b.root.bytes ++ (beBytes b.cost.toNat 4 ++ (b.sender.bytes ++ (b.port.bytes ++ (beBytes b.age.toNat 2 ++ (beBytes b.max.toNat 2 ++ (beBytes b.hello.toNat 2 ++ (beBytes b.wait.toNat 2 ++ rest))))))))) := by
    simpa [Bp.body, List.append_assoc] using h
  exact (((((((((g0.num (beBytes_len _ 1)).1.br).num (beBytes_len _ 4)).1.br).pt hb.port).num (beBytes_len _ 2)).1.num (beBytes_len _ 2)).1.num (beBytes_len _ 2)).1.num (beBytes_len _ 2)).1
theorem kindM_err {h : List UInt8 × RS} (he : h.2.err ≠ none) : kindM h = 0 := by unfold kindM; rw [if_neg he]
theorem kindM_head {h : List UInt8 × RS} (he : h.2.err = none) (k : Int) (hk : k = 1 ∨ k = 2 ∨ k = 3) (h1 : h.1 = headB k) : kindM h = k := by
  unfold kindM
  rw [if_pos he, h1]
  rcases hk with rfl | rfl | rfl <;> rfl
/-- No shorter beginning is read. -/
theorem readBp_cut (b : Bp) (hb : b.okB = true) (k : Nat) (hk : k < b.bytes.length) : ∃ p, (readBpM (b.bytes.take k)).2.err = some (7, p) := by
  have key : ∀ (kind : Int) (l : List UInt8), b.bytes = headB kind ++ l → kind = 1 ∨ kind = 2 ∨ kind = 3 → (∀ R, R.err = none → Cut R l → bytesM (newM (b.bytes.take k) 0) 4 = (headB kind, R) → ∃ p, (readBpM (b.bytes.take k)).2.err = some (7, p)) → ∃ p, (readBpM (b.bytes.take k)).2.err = some (7, p) := by
    intro kind l hl hkd hc
    have hlen : l.length ≤ 32 → b.bytes.length ≤ 36 := by intro h; rw [hl, List.length_append, headB_len]; omega
    have g0 : Cut (newM (b.bytes.take k) 0) (headB kind ++ l) := by
      rw [← hl]
      refine Cut.new _ k 0 hk ?_
      unfold Bp.bytes
      split
      · rw [headB_len]; omega
      · split <;> simp only [List.length_append, headB_len, Bp.body_len, List.length_cons, List.length_nil] <;> omega
    obtain ⟨g1, g2⟩ := g0.bytes (headB_len kind)
    by_cases he : (bytesM (newM (b.bytes.take k) 0) 4).2.err = none
    · exact hc _ he g1 (by rw [← g2 he])
    · rcases g1 with ⟨r, hL, _⟩ | ⟨p, hp⟩
      · exact absurd hL.none he
      · refine ⟨p, ?_⟩
        unfold readBpM
        simp only [kindM_err he]
        rw [if_neg (by decide), if_neg (by decide), if_pos trivial, failM_had hp]
        exact hp
  unfold Bp.okB at hb
  split at hb
  · rename_i h2
    refine key 2 [] (by unfold Bp.bytes; rw [if_pos h2, List.append_nil]) (by simp) (fun R he hc _ => ?_)
    obtain ⟨p, hp⟩ := hc.nil
    rw [he] at hp; cases hp
  · rename_i h2
    split at hb
    · rename_i h1
      simp only [Bool.and_eq_true, decide_eq_true_eq] at hb
      refine key 1 (b.body ++ []) (by unfold Bp.bytes; rw [if_neg h2, if_pos h1, List.append_nil]) (by simp) (fun R he hc e => ?_)
      obtain ⟨p, hp⟩ := (Cut.body (Bp.rest_iff.1 hb.2) 1 hc).nil
      refine ⟨p, ?_⟩
      unfold readBpM
      simp only [e, kindM_head (h := (headB 1, R)) he 1 (by simp) rfl]
      rw [if_pos trivial]
      exact hp
    · rename_i h1
      split at hb
      · rename_i h3
        simp only [Bool.and_eq_true] at hb
        refine key 3 (b.body ++ ([0] ++ [])) (by unfold Bp.bytes; rw [if_neg h2, if_neg h1]; simp) (by simp) (fun R he hc e => ?_)
        have hc2 := Cut.body (Bp.rest_iff.1 hb.2) 3 hc
        obtain ⟨hc3, hc4⟩ := hc2.num (n := 1) rfl
        obtain ⟨p, hp⟩ := hc3.nil
        refine ⟨p, ?_⟩
        unfold readBpM
        simp only [e, kindM_head (h := (headB 3, R)) he 3 (by simp) rfl]
        rw [if_neg (by decide), if_pos trivial]
        split
        · rw [failM_had hp]; exact hp
        · exact hp
      · cases hb
/-- What is read is right, and no longer than the text. -/
theorem readBp_back (s : List UInt8) (hs : s.length ≤ 4611686018427387904) (h : (readBpM s).2.err = none) : (readBpM s).1.okB = true ∧ (readBpM s).1.bytes.length ≤ s.length := by
  have hok : (newM s 0).ok := ⟨Nat.zero_le _, by show 0 + s.length ≤ _; omega⟩
  have e4 : ∀ R : RS, R = (bytesM (newM s 0) 4).2 → R.err = none → kindM (bytesM (newM s 0) 4) ≠ 0 → ∃ k rest, (k = 1 ∨ k = 2 ∨ k = 3) ∧ kindM (bytesM (newM s 0) 4) = k ∧ s = headB k ++ rest ∧ R.Left rest ∧ R.ok := by
    intro R hR he hk
    rw [hR] at he
    obtain ⟨c, rest, l1, L1, b1, G1⟩ := bytesM_back hok he
    have hR' : R = (newM s 0).skip 4 := by rw [hR, b1]
    have hs' : s = c ++ rest := L1.left
    have hkm : kindM (bytesM (newM s 0) 4) = if c = [0, 0, 0, 0] then 1 else if c = [0, 0, 0, 128] then 2 else if c = [0, 0, 2, 2] then 3 else 0 := by
      unfold kindM
      rw [if_pos he, b1]
    rw [hkm] at hk ⊢
    rw [hR']
    split at hk
    · rename_i hc; exact ⟨1, rest, by simp, if_pos hc, by rw [hs', hc]; rfl, G1, G1.ok⟩
    · rename_i hc
      rw [if_neg hc]
      split at hk
      · rename_i hc2; exact ⟨2, rest, by simp, if_pos hc2, by rw [hs', hc2]; rfl, G1, G1.ok⟩
      · rename_i hc2
        rw [if_neg hc2]
        split at hk
        · rename_i hc3; exact ⟨3, rest, by simp, if_pos hc3, by rw [hs', hc3]; rfl, G1, G1.ok⟩
        · exact absurd rfl hk
  generalize hB : bytesM (newM s 0) 4 = Bq at *
  have hk0 : kindM Bq ≠ 0 := by
    intro h0
    unfold readBpM at h
    simp only [hB, h0] at h
    rw [if_neg (by decide), if_neg (by decide), if_pos trivial] at h
    exact failM_back h
  have he : Bq.2.err = none := by
    by_cases he : Bq.2.err = none
    · exact he
    · exact absurd (kindM_err he) hk0
  obtain ⟨k, rest, hk, hkm, hs', L, okR⟩ := e4 Bq.2 rfl he hk0
  clear e4
  rcases hk with rfl | rfl | rfl
  · have e : readBpM s = ({ (readBodyM Bq.2 1).1 with fl := (readBodyM Bq.2 1).1.fl.two }, (readBodyM Bq.2 1).2) := by
      unfold readBpM; simp only [hB, hkm]; rw [if_pos trivial]
    rw [e] at h ⊢
    obtain ⟨r2, L2, hr, hf, hkd, L3⟩ := readBody_back 1 okR h
    have q2 : rest = _ := L.left.symm.trans L2.left
    generalize (readBodyM Bq.2 1).1 = x at *
    refine ⟨?_, ?_⟩
    · unfold Bp.okB
      rw [if_neg (by show ¬ x.kind = 2; omega), if_pos (show x.kind = 1 from hkd)]
      have : Bp.restB { x with fl := x.fl.two } = true := Bp.rest_iff.2 ⟨hr.root, hr.sender, hr.port, hr.cost0, hr.cost1, hr.age0, hr.age1, hr.max0, hr.max1, hr.hello0, hr.hello1, hr.wait0, hr.wait1⟩
      rw [this]
      simp [Fl.two]
    · unfold Bp.bytes
      rw [if_neg (by show ¬ x.kind = 2; omega), if_pos (show x.kind = 1 from hkd), hs', q2]
      simp only [List.length_append, headB_len, Bp.body_len]
      omega
  · have e : readBpM s = (Bp.notice, Bq.2) := by
      unfold readBpM; simp only [hB, hkm]; rw [if_neg (by decide), if_neg (by decide), if_neg (by decide)]
    rw [e]
    exact ⟨show Bp.notice.okB = true by decide, by rw [hs', List.length_append]; exact Nat.le_add_right _ _⟩
  · have e : readBpM s = ((readBodyM Bq.2 3).1, if (numM (readBodyM Bq.2 3).2 1).1 ≠ 0 then failM (numM (readBodyM Bq.2 3).2 1).2 3 ((readBodyM Bq.2 3).2.place : Int) else (numM (readBodyM Bq.2 3).2 1).2) := by
      unfold readBpM; simp only [hB, hkm]; rw [if_neg (by decide), if_pos trivial]
    rw [e] at h ⊢
    simp only [] at h ⊢
    split at h
    · exact (failM_back h).elim
    · rename_i hn
      have hn : (numM (readBodyM Bq.2 3).2 1).1 = 0 := by omega
      obtain ⟨c, r2, l2, L2, e2, L3⟩ := numM_back (okR.body 3) h
      obtain ⟨r3, L4, hr, hf, hkd, L5⟩ := readBody_back 3 okR L2.none
      have q1 : r3 = c ++ r2 := L5.left.symm.trans L2.left
      have q2 : rest = _ := L.left.symm.trans L4.left
      have hc : c = [0] := by
        match c, l2 with
        | [x], _ =>
          rw [e2] at hn
          have : x.toNat = 0 := by simpa [beNum] using hn
          rw [UInt8.toNat_inj.1 (show x.toNat = (0 : UInt8).toNat from this)]
      generalize (readBodyM Bq.2 3).1 = x at *
      refine ⟨?_, ?_⟩
      · unfold Bp.okB
        rw [if_neg (by omega), if_neg (by omega), if_pos hkd, hf, Bp.rest_iff.2 hr]; rfl
      · rw [hs', q2, q1, hc]
        unfold Bp.bytes
        rw [if_neg (by omega), if_neg (by omega)]
        simp only [List.length_append, headB_len, Bp.body_len, List.length_cons, List.length_nil]
        omega
end Go.Proofs.YtidcjbanhdpkkaaDoor
namespace Go.Proofs.YtidcjbanhdpkkaaDoor
open Go.RowKit
set_option maxRecDepth 100000 in
set_option maxHeartbeats 1000000 in
theorem flags_any (c p l s g a : Bool) (r : Int) (w : World) :
    Calls Tryd.prog 34 #[.agg #[.bool c, .bool p, .int .i64 r, .bool l, .bool s, .bool g, .bool a]] w fun e w' =>
      e = .returned (.bool (decide (0 ≤ r) && decide (r ≤ 3))) ∧ Below w.heap.size w w' := by
  go_enter Tryd.func34, Tryd.ntmps34
  go_wp2_with fail
  all_goals
    go_ret
    refine ⟨?_, by go_grown⟩
  all_goals first
    | (rw [show (decide (0 ≤ r) && decide (r ≤ 3)) = false by simp; omega]; rfl)
    | (rw [show (decide (0 ≤ r) && decide (r ≤ 3)) = decide (r ≤ 3) by simp; omega]; rfl)
def fbits (c p l s g a : Bool) : List Bool := [c, p, false, false, l, s, g, a]
def facc (bs : List Bool) (r : Nat) : Nat → Nat
  | 0 => r * 4
  | k + 1 => if bs.getD k false = true then facc bs r k ||| 2 ^ k else facc bs r k
theorem facc_lt (bs : List Bool) (r : Nat) (hr : r < 4) : ∀ k, k ≤ 8 → facc bs r k < 256
  | 0, _ => by simp only [facc]; omega
  | k + 1, h => by
    have ih := facc_lt bs r hr k (by omega)
    simp only [facc]
    split
    · exact Nat.or_lt_two_pow (n := 8) ih (Nat.pow_lt_pow_right (by decide) (by omega))
    · exact ih
theorem or_nat (a b : Nat) (ha : a < 256) (hb : b < 256) : bits .or .i64 (a : Int) (b : Int) = ((a ||| b : Nat) : Int) := by
  have hx : a ||| b < 2 ^ 8 := Nat.or_lt_two_pow (n := 8) ha hb
  have h1 : (BitVec.ofInt 64 (a : Int)).toNat = a := by rw [BitVec.ofInt_natCast, BitVec.toNat_ofNat]; exact Nat.mod_eq_of_lt (by omega)
  have h2 : (BitVec.ofInt 64 (b : Int)).toNat = b := by rw [BitVec.ofInt_natCast, BitVec.toNat_ofNat]; exact Nat.mod_eq_of_lt (by omega)
  show IntKind.i64.wrap ((BitVec.ofInt 64 (a : Int) ||| BitVec.ofInt 64 (b : Int)).toNat : Int) = _
  rw [BitVec.toNat_or, h1, h2, IntKind.wrap_i64]
  omega
theorem flag_index (c p l s g a : Bool) (k : Nat) (hk : k < 8) (W : World) :
    (Instr.index 123 (.agg #[.bool c, .bool p, .bool false, .bool false, .bool l, .bool s, .bool g, .bool a]) (.int .i64 (k : Int))).run Tryd.prog W = .ok (.bool ((fbits c p l s g a).getD k false)) W := by
  rcases k with _ | _ | _ | _ | _ | _ | _ | _ | k
  all_goals first | (exfalso; omega) | kernel_rfl
theorem pow_wrap (k : Nat) (hk : k < 8) : wrap64 ((2 : Int) ^ k) = 2 ^ k := by
  rcases k with _ | _ | _ | _ | _ | _ | _ | _ | k
  all_goals first | (exfalso; omega) | kernel_rfl
set_option maxRecDepth 100000 in
set_option maxHeartbeats 1000000 in
theorem byte_any (c p l s g a : Bool) (r : Nat) (hr : r < 4) (w : World) :
    Calls Tryd.prog 31 #[.agg #[.bool c, .bool p, .int .i64 (r : Int), .bool l, .bool s, .bool g, .bool a]] w fun e w' =>
      e = .returned (.int .i64 (facc (fbits c p l s g a) r 8 : Nat)) ∧ Below w.heap.size w w' := by
  have hidx := flag_index c p l s g a
  have Hidx := Lib.hid hidx
  clear hidx
  have Hlt := Lib.hid (facc_lt (fbits c p l s g a) r hr)
  generalize hbs : fbits c p l s g a = bs at *
  go_enter Tryd.func31, Tryd.ntmps31
  go_wp2_with fail
  go_loop [3, 22] (fun n i => ∃ k : Nat, k ≤ 8 ∧ i = .int .i64 k ∧ n = .int .i64 (facc bs r k : Nat)) (fun _ i => 8 - (intOf i).toNat)
  case atStart => exact ⟨0, by omega, rfl, by simp [facc]⟩
  case round =>
    obtain ⟨k, hk, rfl, rfl⟩ := hrel
    by_cases hlt : k < 8
    · have hx := Hidx.out k hlt
      have ho := or_nat (facc bs r k) (2 ^ k) (Hlt.out k hk) (Nat.pow_lt_pow_right (n := 8) (by decide) (by omega))
      rw [Int.natCast_pow] at ho
      have hw64 : wrap64 ((2 : Int) ^ k) = 2 ^ k := pow_wrap k hlt
      have Hw := Lib.hid hw64
      clear hw64
      cases hb : bs.getD k false
      · rw [hb] at hx
        have hf : facc bs r (k + 1) = facc bs r k := by simp only [facc, hb]; simp
        have Hf := Lib.hid hf
        clear hf hb
        go_wp2_with fail
        go_round
        case rel => exact ⟨k + 1, by omega, by go_num, by rw [Hf.out]⟩
        case measure => simp [intOf]; omega
      · rw [hb] at hx
        have hf : facc bs r (k + 1) = facc bs r k ||| 2 ^ k := by simp only [facc, hb]; simp
        have Hf := Lib.hid hf
        clear hf hb
        go_wp2_with fail
        go_round
        case rel => exact ⟨k + 1, by omega, by go_num, by rw [Hf.out, Hw.out]; exact congrArg _ ho⟩
        case measure => simp [intOf]; omega
    · have : k = 8 := by omega
      subst this
      go_wp2_with fail
      go_ret
      exact ⟨rfl, by go_grown⟩
end Go.Proofs.YtidcjbanhdpkkaaDoor
namespace Go.Proofs.YtidcjbanhdpkkaaDoor
open Go.RowKit
def Br.vals (x : Br) : List Value := .int .i64 x.prio :: .int .i64 x.ext :: x.ad.vals
def Pt.vals (x : Pt) : List Value := [.int .i64 x.prio, .int .i64 x.no]
def Fl.vals (x : Fl) : List Value := [.bool x.change, .bool x.proposal, .int .i64 x.role, .bool x.learn, .bool x.pass, .bool x.agree, .bool x.ack]
theorem Br.one (x : Br) : ∀ v ∈ x.vals, v.oneCell' = true := fun v hv => by
  simp only [Br.vals, Ad.vals, List.mem_cons, List.not_mem_nil, or_false] at hv
  rcases hv with rfl | rfl | rfl | rfl | rfl | rfl | rfl | rfl <;> rfl
theorem Pt.one (x : Pt) : ∀ v ∈ x.vals, v.oneCell' = true := fun v hv => by
  simp only [Pt.vals, List.mem_cons, List.not_mem_nil, or_false] at hv
  rcases hv with rfl | rfl <;> rfl
theorem Fl.one (x : Fl) : ∀ v ∈ x.vals, v.oneCell' = true := fun v hv => by
  simp only [Fl.vals, List.mem_cons, List.not_mem_nil, or_false] at hv
  rcases hv with rfl | rfl | rfl | rfl | rfl | rfl | rfl <;> rfl
theorem info40 : (Tryd.prog.info? 40).map (·.size) = some 8 := by kernel_rfl
theorem info42 : (Tryd.prog.info? 42).map (·.size) = some 2 := by kernel_rfl
theorem info38 : (Tryd.prog.info? 38).map (·.size) = some 7 := by kernel_rfl
set_option maxRecDepth 100000 in
set_option maxHeartbeats 1000000 in
theorem prioRight_any (b : Br) (w : World) :
    Calls Tryd.prog 35 #[.agg b.vals.toArray] w fun e w' => e = .returned (.bool b.okB) ∧ Below w.heap.size w w' := by
  obtain ⟨p, x, ⟨a, b, c, d, e, f⟩⟩ := b
  simp only [Br.vals, Ad.vals]
  by_cases h1 : 0 ≤ p
  · by_cases h2 : p ≤ 61440
    · by_cases h3 : p % 4096 = 0
      · have hb3 : (p % 4096 == 0) = true := by simp [h3]
        by_cases h4 : 0 ≤ x
        · by_cases h5 : x ≤ 4095
          · go_enter Tryd.func35, Tryd.ntmps35
            go_wp2_with fail
            go_ret
            exact ⟨by unfold Br.okB; simp [*] <;> intros <;> omega, by go_grown⟩
          · go_enter Tryd.func35, Tryd.ntmps35
            go_wp2_with fail
            go_ret
            exact ⟨by unfold Br.okB; simp [*] <;> intros <;> omega, by go_grown⟩
        · go_enter Tryd.func35, Tryd.ntmps35
          go_wp2_with fail
          go_ret
          exact ⟨by unfold Br.okB; simp [*] <;> intros <;> omega, by go_grown⟩
      · have hb3 : (p % 4096 == 0) = false := by simp [h3]
        go_enter Tryd.func35, Tryd.ntmps35
        go_wp2_with fail
        go_ret
        exact ⟨by unfold Br.okB; simp [*] <;> intros <;> omega, by go_grown⟩
    · go_enter Tryd.func35, Tryd.ntmps35
      go_wp2_with fail
      go_ret
      exact ⟨by unfold Br.okB; simp [*] <;> intros <;> omega, by go_grown⟩
  · go_enter Tryd.func35, Tryd.ntmps35
    go_wp2_with fail
    go_ret
    exact ⟨by unfold Br.okB; simp [*] <;> intros <;> omega, by go_grown⟩
set_option maxRecDepth 100000 in
set_option maxHeartbeats 1000000 in
theorem prioPort_any (b : Pt) (w : World) :
    Calls Tryd.prog 36 #[.agg b.vals.toArray] w fun e w' => e = .returned (.bool b.okB) ∧ Below w.heap.size w w' := by
  obtain ⟨p, x⟩ := b
  simp only [Pt.vals]
  by_cases h1 : 0 ≤ p
  · by_cases h2 : p ≤ 240
    · by_cases h3 : p % 16 = 0
      · have hb3 : (p % 16 == 0) = true := by simp [h3]
        by_cases h4 : 1 ≤ x
        · by_cases h5 : x ≤ 4095
          · go_enter Tryd.func36, Tryd.ntmps36
            go_wp2_with fail
            go_ret
            exact ⟨by unfold Pt.okB; simp [*] <;> intros <;> omega, by go_grown⟩
          · go_enter Tryd.func36, Tryd.ntmps36
            go_wp2_with fail
            go_ret
            exact ⟨by unfold Pt.okB; simp [*] <;> intros <;> omega, by go_grown⟩
        · go_enter Tryd.func36, Tryd.ntmps36
          go_wp2_with fail
          go_ret
          exact ⟨by unfold Pt.okB; simp [*] <;> intros <;> omega, by go_grown⟩
      · have hb3 : (p % 16 == 0) = false := by simp [h3]
        go_enter Tryd.func36, Tryd.ntmps36
        go_wp2_with fail
        go_ret
        exact ⟨by unfold Pt.okB; simp [*] <;> intros <;> omega, by go_grown⟩
    · go_enter Tryd.func36, Tryd.ntmps36
      go_wp2_with fail
      go_ret
      exact ⟨by unfold Pt.okB; simp [*] <;> intros <;> omega, by go_grown⟩
  · go_enter Tryd.func36, Tryd.ntmps36
    go_wp2_with fail
    go_ret
    exact ⟨by unfold Pt.okB; simp [*] <;> intros <;> omega, by go_grown⟩
theorem or_int (a b : Nat) (ha : a < 65536) (hb : b < 65536) : bits .or .i64 (a : Int) (b : Int) = ((a ||| b : Nat) : Int) := by
  have hx : a ||| b < 2 ^ 16 := Nat.or_lt_two_pow (n := 16) ha hb
  have h1 : (BitVec.ofInt 64 (a : Int)).toNat = a := by rw [BitVec.ofInt_natCast, BitVec.toNat_ofNat]; exact Nat.mod_eq_of_lt (by omega)
  have h2 : (BitVec.ofInt 64 (b : Int)).toNat = b := by rw [BitVec.ofInt_natCast, BitVec.toNat_ofNat]; exact Nat.mod_eq_of_lt (by omega)
  show IntKind.i64.wrap ((BitVec.ofInt 64 (a : Int) ||| BitVec.ofInt 64 (b : Int)).toNat : Int) = _
  rw [BitVec.toNat_or, h1, h2, IntKind.wrap_i64]
  omega
theorem or_sum (k i b : Nat) (hb : b < 2 ^ i) (hk : 2 ^ i * k + b < 65536) : bits .or .i64 ((2 ^ i * k : Nat) : Int) (b : Int) = ((2 ^ i * k + b : Nat) : Int) := by
  rw [or_int _ _ (by omega) (by omega), Nat.two_pow_add_eq_or_of_lt hb]
set_option maxRecDepth 100000 in
set_option maxHeartbeats 1000000 in
theorem pack_ok (b : Br) (hb : b.okB = true) (w : World) :
    Calls Tryd.prog 68 #[.agg b.vals.toArray] w fun e w' => e = .returned (.tuple #[.string ⟨b.bytes.toArray⟩, .nilIface]) ∧ Below w.heap.size w w' := by
  obtain ⟨h1, h2, h3, h4, h5⟩ := Br.ok_iff.1 hb
  have HK := Lib.hid hb
  clear hb
  obtain ⟨p, x, ad⟩ := b
  simp only [] at h1 h2 h3 h4 h5
  obtain ⟨p, rfl⟩ := Int.eq_ofNat_of_zero_le h1
  obtain ⟨x, rfl⟩ := Int.eq_ofNat_of_zero_le h4
  obtain ⟨k, rfl⟩ : ∃ k, p = 2 ^ 12 * k := ⟨p / 4096, by omega⟩
  have M0 : ∀ W, Calls Tryd.prog 45 #[.int .i64 ((2 ^ 12 * k + x : Nat) : Int), .int .i64 2] W fun e w' => e = .returned (.string ⟨(beBytes (2 ^ 12 * k + x) 2).toArray⟩) ∧ Below W.heap.size W w' := fun W => must_ok _ 2 (by decide) (by decide) (by omega) W
  have hor := or_sum k 12 x (by omega) (by omega)
  have hR : Br.bytes ⟨((2 ^ 12 * k : Nat) : Int), (x : Int), ad⟩ = beBytes (2 ^ 12 * k + x) 2 ++ ad.list := by
    unfold Br.bytes
    simp only []
    rw [show (((2 ^ 12 * k : Nat) : Int) + (x : Int)).toNat = 2 ^ 12 * k + x by omega]
  rw [hR]
  have HB := Lib.hid (Box.new w (Br.vals ⟨((2 ^ 12 * k : Nat) : Int), (x : Int), ad⟩) 40)
  have hb0 : Below w.heap.size w (w.alloc (.cells (Br.vals ⟨((2 ^ 12 * k : Nat) : Int), (x : Int), ad⟩).toArray 40)) := (Below.refl _ _).alloc (Nat.le_refl _) _
  have hl0 : w.heap.size < (w.alloc (.cells (Br.vals ⟨((2 ^ 12 * k : Nat) : Int), (x : Int), ad⟩).toArray 40)).heap.size := by simp
  have HM0 := Lib.hid M0
  have L0 : (beBytes (2 ^ 12 * k + x) 2).length ≤ 2 := by rw [beBytes_len]; decide
  have L1 : ad.list.length ≤ 6 := Nat.le_of_eq (Ad.len _)
  have HK1 : Hid (∀ X : World, X.rangeAt w.heap.size 2 ad.vals → (convert 92 9 (.slice (some ⟨w.heap.size, 2, none⟩) 6 6)).run Tryd.prog X = .ok (.string ⟨ad.list.toArray⟩) X) := Lib.hid (fun X h => conv_ad ad h)
  clear M0 hR h1 h2 h3 h4 h5
  generalize beBytes (2 ^ 12 * k + x) 2 = B0 at *
  generalize ad.list = S at *
  generalize (2 ^ 12 * k : Nat) = p at *
  generalize (p + x : Nat) = q at *
  go_enter Tryd.func68, Tryd.ntmps68
  go_upto_region 1 with (fail)
  generalize World.alloc _ _ = W0 at *
  go_upto_region 3 with (first
    | (with_reducible refine wpList_load_rng (ty := 40) (Br.vals _) (by with_unfolding_all rfl) HB.out.range Tryd.underlying40 (by with_unfolding_all rfl) (by with_unfolding_all exact info40) ?_)
    | ((with_reducible refine (prioRight_any _ W0).mono ?_)
       rintro e w1 ⟨rfl, hb1⟩
       rw [HK.out]))
  have HB1 := Lib.hid (HB.out.below hb1 hl0)
  have hl1 := Nat.lt_of_lt_of_le hl0 hb1.size
  have c0 : w1.cell? ⟨w.heap.size, 0, none⟩ = some (.int .i64 (p : Int)) := HB1.out.cell 0
  have c1 : w1.cell? ⟨w.heap.size, 1, none⟩ = some (.int .i64 (x : Int)) := HB1.out.cell 1
  have hr : w1.rangeAt w.heap.size 2 ad.vals := fun i v hi => by
    have := HB1.out.range (2 + i) v (by
      show (_ :: _ :: ad.vals)[2 + i]? = some v
      rw [Nat.add_comm, List.getElem?_cons_succ, List.getElem?_cons_succ]; exact hi)
    simpa using this
  have k1 : ∀ x : Ext w1, (convert 92 9 (.slice (some ⟨w.heap.size, 2, none⟩) 6 6)).run Tryd.prog x.val = .ok (.string ⟨S.toArray⟩) x.val := fun x => HK1.out _ (rangeAt_below hr x.below hl1)
  clear hr
  refine wp_region_ext (by kernel_rfl) (by kernel_rfl) ?_
  repeat (go_big_quiet_step (first | (with_reducible exact Calls.ext _ (HM0.out _))))
  refine wpQuiet_nil ?_
  rintro w2 ⟨⟨_, hb2⟩, rfl⟩
  go_wp2_with fail
  go_ret2
  exact ⟨rfl, (hb0.trans (hb1.mono hb0.size)).trans (hb2.mono (Nat.le_trans hb0.size hb1.size))⟩
set_option maxRecDepth 100000 in
set_option maxHeartbeats 1000000 in
theorem packPort_ok (b : Pt) (hb : b.okB = true) (w : World) :
    Calls Tryd.prog 69 #[.agg b.vals.toArray] w fun e w' => e = .returned (.tuple #[.string ⟨b.bytes.toArray⟩, .nilIface]) ∧ Below w.heap.size w w' := by
  obtain ⟨h1, h2, h3, h4, h5⟩ := Pt.ok_iff.1 hb
  have HK := Lib.hid hb
  clear hb
  obtain ⟨p, x⟩ := b
  simp only [] at h1 h2 h3 h4 h5
  obtain ⟨p, rfl⟩ := Int.eq_ofNat_of_zero_le h1
  obtain ⟨x, rfl⟩ := Int.eq_ofNat_of_zero_le (show 0 ≤ x by omega)
  obtain ⟨k, rfl⟩ : ∃ k, p = 16 * k := ⟨p / 16, by omega⟩
  have hor := or_sum k 12 x (by omega) (by omega)
  have hR : Pt.bytes ⟨((16 * k : Nat) : Int), (x : Int)⟩ = beBytes (2 ^ 12 * k + x) 2 := by
    unfold Pt.bytes
    simp only []
    rw [show (((16 * k : Nat) : Int) * 256 + (x : Int)).toNat = 2 ^ 12 * k + x by omega]
  rw [hR]
  clear hR
  have HB0 := Lib.hid (Box.new w (Pt.vals ⟨((16 * k : Nat) : Int), (x : Int)⟩) 42)
  have hb0 : Below w.heap.size w (w.alloc (.cells (Pt.vals ⟨((16 * k : Nat) : Int), (x : Int)⟩).toArray 42)) := (Below.refl _ _).alloc (Nat.le_refl _) _
  have hl0 : w.heap.size < (w.alloc (.cells (Pt.vals ⟨((16 * k : Nat) : Int), (x : Int)⟩).toArray 42)).heap.size := by simp
  have M0 : ∀ W, Calls Tryd.prog 45 #[.int .i64 ((2 ^ 12 * k + x : Nat) : Int), .int .i64 2] W fun e w' => e = .returned (.string ⟨(beBytes (2 ^ 12 * k + x) 2).toArray⟩) ∧ Below W.heap.size W w' := fun W => must_ok _ 2 (by decide) (by decide) (by omega) W
  have HM0 := Lib.hid M0
  have hsh : wrap64 (((16 * k : Nat) : Int) * 256) = ((2 ^ 12 * k : Nat) : Int) := by
    rw [show ((16 * k : Nat) : Int) * 256 = ((2 ^ 12 * k : Nat) : Int) by omega]
    unfold wrap64; omega
  clear M0 h1 h2 h3 h4 h5
  generalize (2 ^ 12 * k : Nat) = q at *
  generalize (16 * k : Nat) = p at *
  generalize (q + x : Nat) = s at *
  go_enter Tryd.func69, Tryd.ntmps69
  go_upto_region 1 with (fail)
  generalize World.alloc _ _ = W0 at *
  go_upto_region 3 with (first
    | (with_reducible refine wpList_load_rng (ty := 42) (Pt.vals _) (by with_unfolding_all rfl) HB0.out.range Tryd.underlying42 (by with_unfolding_all rfl) (by with_unfolding_all exact info42) ?_)
    | ((with_reducible refine (prioPort_any _ W0).mono ?_)
       rintro e w1 ⟨rfl, hb1⟩
       rw [HK.out]))
  have HB1 := Lib.hid (HB0.out.below hb1 hl0)
  have c0 : w1.cell? ⟨w.heap.size, 0, none⟩ = some (.int .i64 (p : Int)) := HB1.out.cell 0
  have c1 : w1.cell? ⟨w.heap.size, 1, none⟩ = some (.int .i64 (x : Int)) := HB1.out.cell 1
  go_wp2_with (first
    | ((with_reducible refine (HM0.out _).mono ?_)
       rintro e w2 ⟨rfl, hb2⟩
       skip))
  go_ret2
  exact ⟨rfl, (hb0.trans (hb1.mono hb0.size)).trans (hb2.mono (Nat.le_trans hb0.size hb1.size))⟩
end Go.Proofs.YtidcjbanhdpkkaaDoor
namespace Go.Proofs.YtidcjbanhdpkkaaDoor
open Go.RowKit
/-! ### Flags -/
set_option maxRecDepth 100000 in
set_option maxHeartbeats 1000000 in
theorem flagsF_any (f : Fl) (w : World) :
    Calls Tryd.prog 34 #[.agg f.vals.toArray] w fun e w' => e = .returned (.bool f.okB) ∧ Below w.heap.size w w' := by
  obtain ⟨c, p, r, l, s, g, a⟩ := f
  exact flags_any c p l s g a r w
theorem facc_byte : ∀ (c p l s g a : Bool) (r : Fin 4), facc (fbits c p l s g a) r.val 8 = Fl.byte ⟨c, p, ((r.val : Nat) : Int), l, s, g, a⟩ := by decide +kernel
theorem byteF_any (f : Fl) (h : f.okB = true) (w : World) :
    Calls Tryd.prog 31 #[.agg f.vals.toArray] w fun e w' => e = .returned (.int .i64 (f.byte : Int)) ∧ Below w.heap.size w w' := by
  simp only [Fl.okB, Bool.and_eq_true, decide_eq_true_eq] at h
  obtain ⟨c, p, r, l, s, g, a⟩ := f
  simp only [] at h
  obtain ⟨r, rfl⟩ := Int.eq_ofNat_of_zero_le h.1
  have hr : r < 4 := by omega
  have := byte_any c p l s g a r hr w
  rw [facc_byte c p l s g a ⟨r, hr⟩] at this
  exact this
theorem of_bit (n k : Nat) (hn : n < 9223372036854775808) : bits .and .i64 ((n : Int) / 2 ^ k) 1 = ((n / 2 ^ k % 2 : Nat) : Int) := by
  have h1 : n / 2 ^ k < 9223372036854775808 := Nat.lt_of_le_of_lt (Nat.div_le_self _ _) hn
  have hx : n / 2 ^ k &&& 1 < 2 ^ 63 := Nat.and_lt_two_pow _ (by omega)
  have e1 : (BitVec.ofInt 64 ((n / 2 ^ k : Nat) : Int)).toNat = n / 2 ^ k := by rw [BitVec.ofInt_natCast, BitVec.toNat_ofNat]; exact Nat.mod_eq_of_lt (by omega)
  have e2 : bits .and .i64 ((n / 2 ^ k : Nat) : Int) 1 = ((n / 2 ^ k &&& 1 : Nat) : Int) := by
    show IntKind.i64.wrap ((BitVec.ofInt 64 ((n / 2 ^ k : Nat) : Int) &&& BitVec.ofInt 64 (1 : Int)).toNat : Int) = _
    rw [BitVec.toNat_and, e1, show (BitVec.ofInt 64 (1 : Int)).toNat = 1 by decide, IntKind.wrap_i64]
    omega
  rw [nat_mask1] at e2
  simpa using e2
set_option maxRecDepth 100000 in
set_option maxHeartbeats 1000000 in
theorem ofbit_any (n k B : Nat) (hn : n < 256) (hk : k < 8) (w : World) (hc : w.cell? ⟨B, 0, none⟩ = some (.int .i64 (n : Int))) :
    Calls Tryd.prog 88 #[.int .i64 (k : Int), .pointer (some ⟨B, 0, none⟩)] w fun e w' =>
      e = .returned (.bool (decide (n / 2 ^ k % 2 = 1))) ∧ w = w' := by
  have hb := of_bit n k (by omega)
  rcases Nat.mod_two_eq_zero_or_one (n / 2 ^ k) with h2 | h2
  all_goals
    rw [h2] at hb ⊢
    have H2 := Lib.hid h2
    clear h2
    go_enter Tryd.func88, Tryd.ntmps88
    go_wp2_with fail
    go_ret
    exact ⟨rfl, rfl⟩
set_option maxRecDepth 100000 in
set_option maxHeartbeats 1000000 in
theorem of_any (n : Nat) (hn : n < 256) (w : World) :
    Calls Tryd.prog 71 #[.int .i64 (n : Int)] w fun e w' => e = .returned (.agg (Fl.of n).vals.toArray) ∧ Below w.heap.size w w' := by
  have hff : ∀ (args : Array Value) (W : World), (callFunc 88 args).run Tryd.prog W = .ok (.enter 88 args) W := fun args W => by kernel_rfl
  have H1 := Lib.hid ((St.init w).alloc2 [.int .i64 (n : Int)] [.bool false, .bool false, .int .i64 0, .bool false, .bool false, .bool false, .bool false] 3 38)
  have q : ∀ k : Nat, k < 8 → Hid (∀ W : World, W.cell? ⟨w.heap.size, 0, none⟩ = some (.int .i64 (n : Int)) → Calls Tryd.prog 88 #[.int .i64 (k : Int), .pointer (some ⟨w.heap.size, 0, none⟩)] W fun e w' => e = .returned (.bool (decide (n / 2 ^ k % 2 = 1))) ∧ W = w') := fun k hk => Lib.hid (fun W h => ofbit_any n k w.heap.size hn hk W h)
  have q0 : Hid (∀ W : World, W.cell? ⟨w.heap.size, 0, none⟩ = some (.int .i64 (n : Int)) → Calls Tryd.prog 88 #[.int .i64 0, .pointer (some ⟨w.heap.size, 0, none⟩)] W fun e w' => e = .returned (.bool (decide (n / 2 ^ 0 % 2 = 1))) ∧ W = w') := q 0 (by decide)
  have q1 : Hid (∀ W : World, W.cell? ⟨w.heap.size, 0, none⟩ = some (.int .i64 (n : Int)) → Calls Tryd.prog 88 #[.int .i64 1, .pointer (some ⟨w.heap.size, 0, none⟩)] W fun e w' => e = .returned (.bool (decide (n / 2 ^ 1 % 2 = 1))) ∧ W = w') := q 1 (by decide)
  have q4 : Hid (∀ W : World, W.cell? ⟨w.heap.size, 0, none⟩ = some (.int .i64 (n : Int)) → Calls Tryd.prog 88 #[.int .i64 4, .pointer (some ⟨w.heap.size, 0, none⟩)] W fun e w' => e = .returned (.bool (decide (n / 2 ^ 4 % 2 = 1))) ∧ W = w') := q 4 (by decide)
  have q5 : Hid (∀ W : World, W.cell? ⟨w.heap.size, 0, none⟩ = some (.int .i64 (n : Int)) → Calls Tryd.prog 88 #[.int .i64 5, .pointer (some ⟨w.heap.size, 0, none⟩)] W fun e w' => e = .returned (.bool (decide (n / 2 ^ 5 % 2 = 1))) ∧ W = w') := q 5 (by decide)
  have q6 : Hid (∀ W : World, W.cell? ⟨w.heap.size, 0, none⟩ = some (.int .i64 (n : Int)) → Calls Tryd.prog 88 #[.int .i64 6, .pointer (some ⟨w.heap.size, 0, none⟩)] W fun e w' => e = .returned (.bool (decide (n / 2 ^ 6 % 2 = 1))) ∧ W = w') := q 6 (by decide)
  have q7 : Hid (∀ W : World, W.cell? ⟨w.heap.size, 0, none⟩ = some (.int .i64 (n : Int)) → Calls Tryd.prog 88 #[.int .i64 7, .pointer (some ⟨w.heap.size, 0, none⟩)] W fun e w' => e = .returned (.bool (decide (n / 2 ^ 7 % 2 = 1))) ∧ W = w') := q 7 (by decide)
  clear q
  have hm3 : bits .and .i64 ((n : Int) / 4) 3 = ((n / 4 % 4 : Nat) : Int) := by
    have e1 : (BitVec.ofInt 64 ((n / 4 : Nat) : Int)).toNat = n / 4 := by rw [BitVec.ofInt_natCast, BitVec.toNat_ofNat]; exact Nat.mod_eq_of_lt (by omega)
    have e2 : bits .and .i64 ((n / 4 : Nat) : Int) 3 = ((n / 4 &&& 3 : Nat) : Int) := by
      have hx : n / 4 &&& 3 < 2 ^ 2 := Nat.and_lt_two_pow _ (by omega)
      show IntKind.i64.wrap ((BitVec.ofInt 64 ((n / 4 : Nat) : Int) &&& BitVec.ofInt 64 (3 : Int)).toNat : Int) = _
      rw [BitVec.toNat_and, e1, show (BitVec.ofInt 64 (3 : Int)).toNat = 3 by decide, IntKind.wrap_i64]
      omega
    rw [show n / 4 &&& 3 = n / 4 % 4 from Nat.and_two_pow_sub_one_eq_mod (n / 4) 2] at e2
    simpa using e2
  go_enter Tryd.func71, Tryd.ntmps71
  go_upto_region 2 with (fail)
  generalize World.alloc _ _ = W0 at *
  have cN : W0.cell? ⟨w.heap.size, 0, none⟩ = some (.int .i64 (n : Int)) := (Blk.box (H1.out.at 1 rfl)).cell 0
  have lN : w.heap.size < W0.heap.size := (H1.out.at 1 rfl).lt
  have hn0 : (0 : Int) ≤ n := by omega
  refine wp_region_ext_tail 16 (by kernel_rfl) (by kernel_rfl) ?_
  simp only [List.take_succ_cons, List.take_zero, List.drop_succ_cons, List.drop_zero]
  repeat (go_big_quiet_step ((first
    | (with_reducible exact Calls.ext_same _ (q0.out _ (by rw [Ext.cell _ _ _ lN]; exact cN)))
    | (with_reducible exact Calls.ext_same _ (q1.out _ (by rw [Ext.cell _ _ _ lN]; exact cN)))
    | (with_reducible exact Calls.ext_same _ (q4.out _ (by rw [Ext.cell _ _ _ lN]; exact cN)))
    | (with_reducible exact Calls.ext_same _ (q5.out _ (by rw [Ext.cell _ _ _ lN]; exact cN)))
    | (with_reducible exact Calls.ext_same _ (q6.out _ (by rw [Ext.cell _ _ _ lN]; exact cN)))
    | (with_reducible exact Calls.ext_same _ (q7.out _ (by rw [Ext.cell _ _ _ lN]; exact cN))))))
  refine wpQuiet_nil ?_
  rintro w2 ⟨⟨_, hb2⟩, rfl⟩
  have H2 := Lib.hid (H1.out.ext hb2)
  clear hb2 H1 q0 q1 q4 q5 q6 q7 hm3 cN
  have h4 : ((n / 4 % 4 : Nat) : Int) = (n : Int) / 4 % 4 := by omega
  have hE : (Fl.of n).vals = [.bool (decide (n % 2 = 1)), .bool (decide (n / 2 % 2 = 1)), .int .i64 ((n : Int) / 4 % 4), .bool (decide (n / 16 % 2 = 1)), .bool (decide (n / 32 % 2 = 1)), .bool (decide (n / 64 % 2 = 1)), .bool (decide (n / 128 % 2 = 1))] := by
    rw [← h4]; rfl
  have HO := Lib.hid (Fl.one (Fl.of n))
  have HE := Lib.hid hE
  clear hE h4
  generalize hV : (Fl.of n).vals = V at *
  have HV := Lib.hid hV
  clear hV
  go_wp2_with (first
    | (with_reducible refine wpList_store_blk (ty := 38) (o := 0) _ [.bool (decide (n % 2 = 1)), .bool (decide (n / 2 % 2 = 1)), .int .i64 ((n : Int) / 4 % 4), .bool (decide (n / 16 % 2 = 1)), .bool (decide (n / 32 % 2 = 1)), .bool (decide (n / 64 % 2 = 1)), .bool (decide (n / 128 % 2 = 1))] (by with_unfolding_all rfl) (by with_unfolding_all rfl) (H2.out.at 0 rfl) (by with_unfolding_all exact Nat.le_refl _) (by with_unfolding_all exact info38) (by rw [← HE.out]; exact HO.out) (fun W3 hBW3 hoW3 => ?_)))
  have B3 : Blk W3 (w.heap.size + 1) 38 [.bool (decide (n % 2 = 1)), .bool (decide (n / 2 % 2 = 1)), .int .i64 ((n : Int) / 4 % 4), .bool (decide (n / 16 % 2 = 1)), .bool (decide (n / 32 % 2 = 1)), .bool (decide (n / 64 % 2 = 1)), .bool (decide (n / 128 % 2 = 1))] := hBW3
  rw [← HE.out] at B3
  have h3 := H2.out.sets (L' := V) B3 hoW3
  have hVl : V.length = 7 := by rw [HE.out]; rfl
  exact ret_cell (cs := V) Tryd.results71 (by rfl) (Blk.box h3.head).range Tryd.underlying38 rfl (by rw [hVl]; exact info38) rfl ⟨by rw [HV.out], h3.below⟩
end Go.Proofs.YtidcjbanhdpkkaaDoor
namespace Go.Proofs.YtidcjbanhdpkkaaDoor
open Go.RowKit
def Bp.vals (b : Bp) : List Value := .int .i64 b.kind :: (b.fl.vals ++ (b.root.vals ++ (.int .i64 b.cost :: (b.sender.vals ++ (b.port.vals ++ [.int .i64 b.age, .int .i64 b.max, .int .i64 b.hello, .int .i64 b.wait])))))
theorem Bp.len (b : Bp) : b.vals.length = 31 := rfl
theorem Bp.one (b : Bp) : ∀ v ∈ b.vals, v.oneCell' = true := fun v hv => by
  simp only [Bp.vals, List.mem_cons, List.mem_append, List.not_mem_nil, or_false] at hv
  rcases hv with rfl | hv | hv | rfl | hv | hv | rfl | rfl | rfl | rfl
  · rfl
  · exact Fl.one _ v hv
  · exact Br.one _ v hv
  · rfl
  · exact Br.one _ v hv
  · exact Pt.one _ v hv
  · rfl
  · rfl
  · rfl
  · rfl
set_option maxRecDepth 100000 in
set_option maxHeartbeats 1000000 in
theorem fl_eqIn (x y : Fl) (d : Nat) (W : World) : (Op.equalIn (d + 1 + 1) 38 (.agg x.vals.toArray) (.agg y.vals.toArray)).run Tryd.prog W = .ok (decide (x = y)) W := by
  have u3 := Tryd.underlying3
  have a3 := Tryd.isAgg3
  have z3 := Tryd.sizeOf3
  have u4 := Tryd.underlying4
  have a4 := Tryd.isAgg4
  have z4 := Tryd.sizeOf4
  have hS : Tryd.prog.underlying 38 = some (.struct (Tryd.prog.fieldsOf 38)) := by kernel_rfl
  have hp : Tryd.prog.stoodInHeld 38 = false := by kernel_rfl
  obtain ⟨c, p, r, l, s, g, a⟩ := x
  obtain ⟨c', p', r', l', s', g', a'⟩ := y
  simp only [Fl.vals]
  rw [run_equalIn_agg W (d + 1) 38 _ _ hS hp]
  simp only [Program.fieldsOf, Tryd.underlying38]
  go_simp
  repeat' split
  all_goals simp_all
set_option maxRecDepth 100000 in
set_option maxHeartbeats 1000000 in
theorem pt_eqIn (x y : Pt) (d : Nat) (W : World) : (Op.equalIn (d + 1 + 1) 42 (.agg x.vals.toArray) (.agg y.vals.toArray)).run Tryd.prog W = .ok (decide (x = y)) W := by
  have u3 := Tryd.underlying3
  have a3 := Tryd.isAgg3
  have z3 := Tryd.sizeOf3
  have hS : Tryd.prog.underlying 42 = some (.struct (Tryd.prog.fieldsOf 42)) := by kernel_rfl
  have hp : Tryd.prog.stoodInHeld 42 = false := by kernel_rfl
  obtain ⟨c, p⟩ := x
  obtain ⟨c', p'⟩ := y
  simp only [Pt.vals]
  rw [run_equalIn_agg W (d + 1) 42 _ _ hS hp]
  simp only [Program.fieldsOf, Tryd.underlying42]
  go_simp
  repeat' split
  all_goals simp_all
set_option maxRecDepth 100000 in
set_option maxHeartbeats 1000000 in
theorem br_eqIn (x y : Br) (d : Nat) (W : World) : (Op.equalIn (d + 1 + 1 + 1) 40 (.agg x.vals.toArray) (.agg y.vals.toArray)).run Tryd.prog W = .ok (decide (x = y)) W := by
  have u3 := Tryd.underlying3
  have a3 := Tryd.isAgg3
  have z3 := Tryd.sizeOf3
  have aA := Tryd.isAgg23
  have zA := Tryd.sizeOf23
  have hS : Tryd.prog.underlying 40 = some (.struct (Tryd.prog.fieldsOf 40)) := by kernel_rfl
  have hp : Tryd.prog.stoodInHeld 40 = false := by kernel_rfl
  obtain ⟨p, e, ad⟩ := x
  obtain ⟨p', e', ad'⟩ := y
  have h1 := ad_eqIn ad ad' d W
  have hd : decide (Br.mk p e ad = Br.mk p' e' ad') = (decide (p = p') && (decide (e = e') && decide (ad = ad'))) := by simp
  rw [hd]
  generalize decide (ad = ad') = q at *
  clear hd
  obtain ⟨x1, x2, x3, x4, x5, x6⟩ := ad
  obtain ⟨y1, y2, y3, y4, y5, y6⟩ := ad'
  simp only [Ad.vals] at h1
  simp only [Br.vals, Ad.vals]
  rw [run_equalIn_agg W (d + 1 + 1) 40 _ _ hS hp]
  simp only [Program.fieldsOf, Tryd.underlying40]
  cases q
  all_goals
    go_simp
    repeat' split
    all_goals simp_all
set_option maxRecDepth 100000 in
set_option maxHeartbeats 4000000 in
theorem bp_eqIn (x y : Bp) (d : Nat) (W : World) : (Op.equalIn (d + 1 + 1 + 1 + 1) 44 (.agg x.vals.toArray) (.agg y.vals.toArray)).run Tryd.prog W = .ok (decide (x = y)) W := by
  have u3 := Tryd.underlying3
  have a3 := Tryd.isAgg3
  have z3 := Tryd.sizeOf3
  have aF := Tryd.isAgg38
  have zF := Tryd.sizeOf38
  have aB := Tryd.isAgg40
  have zB := Tryd.sizeOf40
  have aP := Tryd.isAgg42
  have zP := Tryd.sizeOf42
  have hS : Tryd.prog.underlying 44 = some (.struct (Tryd.prog.fieldsOf 44)) := by kernel_rfl
  have hp : Tryd.prog.stoodInHeld 44 = false := by kernel_rfl
  obtain ⟨k, f, r, c, s, p, n1, n2, n3, n4⟩ := x
  obtain ⟨k', f', r', c', s', p', m1, m2, m3, m4⟩ := y
  have h1 := fl_eqIn f f' (d + 1) W
  have h2 := br_eqIn r r' d W
  have h3 := br_eqIn s s' d W
  have h4 := pt_eqIn p p' (d + 1) W
  have hd : decide (Bp.mk k f r c s p n1 n2 n3 n4 = Bp.mk k' f' r' c' s' p' m1 m2 m3 m4) = (decide (k = k') && (decide (f = f') && (decide (r = r') && (decide (c = c') && (decide (s = s') && (decide (p = p') && (decide (n1 = m1) && (decide (n2 = m2) && (decide (n3 = m3) && decide (n4 = m4)))))))))) := by simp
  rw [hd]
  generalize decide (f = f') = q1 at *
  generalize decide (r = r') = q2 at *
  generalize decide (s = s') = q3 at *
  generalize decide (p = p') = q4 at *
  clear hd
  obtain ⟨f1, f2, f3, f4, f5, f6, f7⟩ := f
  obtain ⟨g1, g2, g3, g4, g5, g6, g7⟩ := f'
  obtain ⟨r1, r2, ⟨x1, x2, x3, x4, x5, x6⟩⟩ := r
  obtain ⟨t1, t2, ⟨y1, y2, y3, y4, y5, y6⟩⟩ := r'
  obtain ⟨s1, s2, ⟨z1, z2, z3, z4, z5, z6⟩⟩ := s
  obtain ⟨o1, o2, ⟨v1, v2, v3, v4, v5, v6⟩⟩ := s'
  obtain ⟨p1, p2⟩ := p
  obtain ⟨i1, i2⟩ := p'
  simp only [Fl.vals, Br.vals, Pt.vals, Ad.vals] at h1 h2 h3 h4
  simp only [Bp.vals, Fl.vals, Br.vals, Pt.vals, Ad.vals, List.cons_append, List.nil_append]
  rw [run_equalIn_agg W (d + 1 + 1 + 1) 44 _ _ hS hp]
  have hI : ∀ (a b : Int) (W : World), (Op.equalIn (d + 1 + 1 + 1) 3 (.int .i64 a) (.int .i64 b)).run Tryd.prog W = .ok (a == b) W := fun a b W => run_equalIn_int W (d + 1 + 1) 3 .i64 .i64 a b u3
  generalize d + 1 + 1 + 1 = D at *
  simp only [Program.fieldsOf, Tryd.underlying44]
  by_cases e0 : k = k'
  · subst e0
    cases q1
    · go_simp
    ·
      cases q2
      · go_simp
      ·
        by_cases e3 : c = c'
        · subst e3
          cases q3
          · go_simp
          ·
            cases q4
            · go_simp
            ·
              by_cases e6 : n1 = m1
              · subst e6
                by_cases e7 : n2 = m2
                · subst e7
                  by_cases e8 : n3 = m3
                  · subst e8
                    by_cases e9 : n4 = m4
                    · subst e9
                      go_simp
                    · have e9b : (n4 == m4) = false := by rw [beq_eq_false_iff_ne]; exact e9
                      go_simp
                  · have e8b : (n3 == m3) = false := by rw [beq_eq_false_iff_ne]; exact e8
                    go_simp
                · have e7b : (n2 == m2) = false := by rw [beq_eq_false_iff_ne]; exact e7
                  go_simp
              · have e6b : (n1 == m1) = false := by rw [beq_eq_false_iff_ne]; exact e6
                go_simp
        · have e3b : (c == c') = false := by rw [beq_eq_false_iff_ne]; exact e3
          go_simp
  · have e0b : (k == k') = false := by rw [beq_eq_false_iff_ne]; exact e0
    go_simp
theorem bp_eq (x y : Bp) (W : World) : (binOp .eql 44 (.agg x.vals.toArray) (.agg y.vals.toArray)).run Tryd.prog W = .ok (.bool (decide (x = y))) W := by
  rw [run_eql_struct, show (10000 : Nat) = 9996 + 1 + 1 + 1 + 1 from rfl, bp_eqIn]; rfl
theorem bp_neq (x y : Bp) (W : World) : (binOp .neq 44 (.agg x.vals.toArray) (.agg y.vals.toArray)).run Tryd.prog W = .ok (.bool (!decide (x = y))) W := by
  rw [run_neq_struct, show (10000 : Nat) = 9996 + 1 + 1 + 1 + 1 from rfl, bp_eqIn]; rfl
theorem bp_guard (op : BinOp) (x y : Bp) (p q : Operand) (W : World) : (eqGuard op 44 p q (.agg x.vals.toArray) (.agg y.vals.toArray)).run Tryd.prog W = .ok () W := run_eqGuard_agg W op _ p q _ _ (by kernel_rfl)
theorem fl_eq (x y : Fl) (W : World) : (binOp .eql 38 (.agg x.vals.toArray) (.agg y.vals.toArray)).run Tryd.prog W = .ok (.bool (decide (x = y))) W := by
  rw [run_eql_struct, show (10000 : Nat) = 9998 + 1 + 1 from rfl, fl_eqIn]; rfl
theorem fl_neq (x y : Fl) (W : World) : (binOp .neq 38 (.agg x.vals.toArray) (.agg y.vals.toArray)).run Tryd.prog W = .ok (.bool (!decide (x = y))) W := by
  rw [run_neq_struct, show (10000 : Nat) = 9998 + 1 + 1 from rfl, fl_eqIn]; rfl
theorem fl_guard (op : BinOp) (x y : Fl) (p q : Operand) (W : World) : (eqGuard op 38 p q (.agg x.vals.toArray) (.agg y.vals.toArray)).run Tryd.prog W = .ok () W := run_eqGuard_agg W op _ p q _ _ (by kernel_rfl)
end Go.Proofs.YtidcjbanhdpkkaaDoor
namespace Go.Proofs.YtidcjbanhdpkkaaDoor
open Go.RowKit
theorem info44 : (Tryd.prog.info? 44).map (·.size) = some 31 := by kernel_rfl
theorem notice_built : Tryd.prog.built 44 [(0, .int .i64 2)] = some Bp.notice.vals.toArray := by kernel_rfl
theorem two_built (f : Fl) : Tryd.prog.built 38 [(0, .bool f.change), (6, .bool f.ack)] = some f.two.vals.toArray := by kernel_rfl
@[reducible] def zFl : List Value := [.bool false, .bool false, .int .i64 0, .bool false, .bool false, .bool false, .bool false]
structure BpIn (w : World) (g : Nat) (b : Bp) : Prop where
  kind : w.cell? ⟨g, 0, none⟩ = some (.int .i64 b.kind)
  fl : w.rangeAt g 1 b.fl.vals
  root : w.rangeAt g 8 b.root.vals
  cost : w.cell? ⟨g, 16, none⟩ = some (.int .i64 b.cost)
  sender : w.rangeAt g 17 b.sender.vals
  port : w.rangeAt g 25 b.port.vals
  age : w.cell? ⟨g, 27, none⟩ = some (.int .i64 b.age)
  max : w.cell? ⟨g, 28, none⟩ = some (.int .i64 b.max)
  hello : w.cell? ⟨g, 29, none⟩ = some (.int .i64 b.hello)
  wait : w.cell? ⟨g, 30, none⟩ = some (.int .i64 b.wait)
theorem bp_in {w : World} {g : Nat} {b : Bp} (h : Box w g b.vals) : BpIn w g b := by
  have h0 := h.range
  have h1 : w.rangeAt g 1 (b.fl.vals ++ (b.root.vals ++ (.int .i64 b.cost :: (b.sender.vals ++ (b.port.vals ++ [.int .i64 b.age, .int .i64 b.max, .int .i64 b.hello, .int .i64 b.wait]))))) := by
    have := rng_right (a := [.int .i64 b.kind]) h0
    exact this
  have h2 : w.rangeAt g 8 (b.root.vals ++ (.int .i64 b.cost :: (b.sender.vals ++ (b.port.vals ++ [.int .i64 b.age, .int .i64 b.max, .int .i64 b.hello, .int .i64 b.wait])))) := rng_right (a := b.fl.vals) h1
  have h3 : w.rangeAt g 16 ([.int .i64 b.cost] ++ (b.sender.vals ++ (b.port.vals ++ [.int .i64 b.age, .int .i64 b.max, .int .i64 b.hello, .int .i64 b.wait]))) := rng_right (a := b.root.vals) h2
  have h4 : w.rangeAt g 17 (b.sender.vals ++ (b.port.vals ++ [.int .i64 b.age, .int .i64 b.max, .int .i64 b.hello, .int .i64 b.wait])) := rng_right h3
  have h5 : w.rangeAt g 25 (b.port.vals ++ [.int .i64 b.age, .int .i64 b.max, .int .i64 b.hello, .int .i64 b.wait]) := rng_right (a := b.sender.vals) h4
  exact ⟨h.cell 0, rng_left h1, rng_left h2, h.cell 16, rng_left h4, rng_left h5, h.cell 27, h.cell 28, h.cell 29, h.cell 30⟩
set_option maxRecDepth 100000 in
set_option maxHeartbeats 1000000 in
theorem times_any (l : List Int) (g cap n : Nat) (hn : l.length = n) (hm : n ≤ 100) (w : World) (h : ∀ i (hi : i < l.length), w.cell? ⟨g, i, none⟩ = some (.int .i64 l[i])) :
    Calls Tryd.prog 37 #[.slice (some ⟨g, 0, none⟩) n cap] w fun e w' => e = .returned (.bool (l.all sh)) ∧ w = w' := by
  have H := Lib.hid h
  have Hn := Lib.hid hn
  clear h hn
  go_enter Tryd.func37, Tryd.ntmps37
  go_wp2_with fail
  go_loop [7] (fun i => ∃ k : Nat, k ≤ n ∧ i = .int .i64 k ∧ Hid (∀ j (hj : j < l.length), j < k → sh l[j] = true)) (fun i => n - (intOf i).toNat)
  case atStart => exact ⟨0, by omega, rfl, Lib.hid (fun j _ h => by omega)⟩
  case round =>
    obtain ⟨k, hk, rfl, HA⟩ := hrel
    by_cases hlt : k < n
    · have hkl : k < l.length := by rw [Hn.out]; exact hlt
      have hc := H.out k hkl
      have Hs : Hid (∀ x, l[k] = x → sh x = true → ∀ j (hj : j < l.length), j < k + 1 → sh l[j] = true) := Lib.hid (fun x hx hs j hj hjk => by
        by_cases e : j = k
        · subst e; rw [hx]; exact hs
        · exact HA.out j hj (by omega))
      have Ha : Hid (∀ x, l[k] = x → sh x = false → l.all sh = false) := Lib.hid (fun x hx hs => by
        rw [List.all_eq_false]
        exact ⟨l[k], List.getElem_mem hkl, by rw [hx, hs]; exact Bool.false_ne_true⟩)
      generalize hx : l[k] = x at hc
      have Hx := Lib.hid hx
      clear hx
      by_cases h0 : x < 0
      · go_wp2_with fail
        go_ret
        exact ⟨by rw [Ha.out x Hx.out (by simp [sh]; omega)]; rfl, rfl⟩
      · by_cases h1 : 65535 < x
        · go_wp2_with fail
          go_ret
          exact ⟨by rw [Ha.out x Hx.out (by simp [sh]; omega)]; rfl, rfl⟩
        · go_wp2_with fail
          go_round
          case rel => exact ⟨k + 1, by omega, by go_num, Lib.hid (Hs.out x Hx.out (by simp [sh]; omega))⟩
          case measure => simp [intOf]; omega
    · go_wp2_with fail
      go_ret
      exact ⟨by rw [List.all_eq_true.2 (fun x hx => by
        obtain ⟨j, hj, rfl⟩ := List.getElem_of_mem hx
        exact HA.out j hj (by have := Hn.out; omega))]; rfl, rfl⟩
set_option maxRecDepth 100000 in
set_option maxHeartbeats 2000000 in
theorem bpRight_any (b : Bp) (w : World) :
    Calls Tryd.prog 16 #[.agg b.vals.toArray] w fun e w' => e = .returned (.bool b.okB) ∧ Below w.heap.size w w' := by
  have H0 := Lib.hid ((St.init w).alloc b.vals 44)
  go_enter Tryd.func16, Tryd.ntmps16
  go_upto_region 1 with (fail)
  generalize World.alloc _ _ = W0 at *
  have I0 := bp_in (Blk.box (H0.out.at 0 rfl))
  have R0 := Lib.hid I0.fl
  clear I0
  go_upto_region 2 with (first
    | (with_reducible refine wpList_load_rng (ty := 38) b.fl.vals (by with_unfolding_all rfl) R0.out Tryd.underlying38 (by with_unfolding_all rfl) (by with_unfolding_all exact info38) ?_)
    | (with_reducible refine wpList_store_blk (ty := 38) (o := 0) _ b.fl.vals (by with_unfolding_all rfl) (by with_unfolding_all rfl) (Blk.new W0 zFl 38) (by with_unfolding_all exact Nat.le_refl _) (by with_unfolding_all exact info38) (Fl.one _) (fun W1 hBW1 hoW1 => ?_)))
  have H1 : Hid (St w.heap.size w W1 [bk W0.heap.size 38 b.fl.vals, bk w.heap.size 44 b.vals]) := Lib.hid ((H0.out.alloc zFl 38).sets (L' := b.fl.vals) hBW1 hoW1)
  clear hBW1 hoW1 H0 R0
  generalize W0.heap.size = P at *
  have I1 := Lib.hid (bp_in (Blk.box (H1.out.at 1 rfl)))
  have c0 := I1.out.kind
  go_upto_block 0 with (fail)
  go_cut [] (fun wx => Hid (St w.heap.size w wx [bk P 38 b.fl.vals, bk w.heap.size 44 b.vals]) ∧ Hid (b.okB = b.restB))
  case first =>
    by_cases k2 : b.kind = 2
    · have hb2 : (b.kind == 2) = true := by simp [k2]
      have Hr : Hid (b.okB = decide (b = Bp.notice)) := Lib.hid (by unfold Bp.okB; rw [if_pos k2])
      have EN := bp_eq b Bp.notice
      have GN := fun p q => bp_guard .eql b Bp.notice p q
      have PB := Lib.hid notice_built
      clear k2
      generalize decide (b = Bp.notice) = q at *
      generalize Bp.notice = N at *
      go_wp2_with (first
        | (with_reducible refine wpList_load_rng (ty := 44) b.vals (by with_unfolding_all rfl) (Blk.box (H1.out.at 1 rfl)).range Tryd.underlying44 (by with_unfolding_all rfl) (by with_unfolding_all exact info44) ?_)
        | (with_reducible refine wpList_buildA (t := 44) [(0, .int .i64 2)] N.vals (by with_unfolding_all rfl) PB.out ?_))
      go_ret
      exact ⟨by rw [Hr.out]; rfl, H1.out.below⟩
    · have hb2 : (b.kind == 2) = false := by simp [k2]
      by_cases k1 : b.kind = 1
      · have hb1 : (b.kind == 1) = true := by simp [k1]
        have Hr : Hid (b.okB = (decide (b.fl = b.fl.two) && b.restB)) := Lib.hid (by unfold Bp.okB; rw [if_neg k2, if_pos k1])
        have d0 : W1.cell? ⟨P, 0, none⟩ = some (.bool b.fl.change) := (Blk.box (H1.out.at 0 rfl)).cell 0
        have d6 : W1.cell? ⟨P, 6, none⟩ = some (.bool b.fl.ack) := (Blk.box (H1.out.at 0 rfl)).cell 6
        have EN := fl_neq b.fl b.fl.two
        have GN := fun p q => fl_guard .neq b.fl b.fl.two p q
        have PB := Lib.hid (two_built b.fl)
        clear k1 k2
        cases hd : decide (b.fl = b.fl.two)
        · rw [hd] at EN Hr
          clear hd
          go_wp2_with (first
            | (with_reducible refine wpList_load_rng (ty := 38) b.fl.vals (by with_unfolding_all rfl) (Blk.box (H1.out.at 0 rfl)).range Tryd.underlying38 (by with_unfolding_all rfl) (by with_unfolding_all exact info38) ?_)
            | (with_reducible refine wpList_buildA (t := 38) [(0, .bool b.fl.change), (6, .bool b.fl.ack)] b.fl.two.vals (by with_unfolding_all rfl) PB.out ?_))
          go_ret
          exact ⟨by rw [Hr.out]; rfl, H1.out.below⟩
        · rw [hd] at EN Hr
          clear hd
          go_wp2_with (first
            | (with_reducible refine wpList_load_rng (ty := 38) b.fl.vals (by with_unfolding_all rfl) (Blk.box (H1.out.at 0 rfl)).range Tryd.underlying38 (by with_unfolding_all rfl) (by with_unfolding_all exact info38) ?_)
            | (with_reducible refine wpList_buildA (t := 38) [(0, .bool b.fl.change), (6, .bool b.fl.ack)] b.fl.two.vals (by with_unfolding_all rfl) PB.out ?_))
          go_meet
          exact ⟨H1, Lib.hid Hr.out⟩
      · have hb1 : (b.kind == 1) = false := by simp [k1]
        by_cases k3 : b.kind = 3
        · have hb3 : (b.kind == 3) = true := by simp [k3]
          have Hr : Hid (b.okB = (b.fl.okB && b.restB)) := Lib.hid (by unfold Bp.okB; rw [if_neg k2, if_neg k1, if_pos k3])
          clear k1 k2 k3
          cases hd : b.fl.okB
          · rw [hd] at Hr
            have Hd := Lib.hid hd
            clear hd
            go_wp2_with (first
              | (with_reducible refine wpList_load_rng (ty := 38) b.fl.vals (by with_unfolding_all rfl) (Blk.box (H1.out.at 0 rfl)).range Tryd.underlying38 (by with_unfolding_all rfl) (by with_unfolding_all exact info38) ?_)
              | ((with_reducible refine (flagsF_any b.fl _).mono ?_)
                 rintro e w2 ⟨rfl, hb2⟩
                 rw [Hd.out]
                 have H2 := Lib.hid (H1.out.ext hb2)))
            go_ret
            exact ⟨by rw [Hr.out]; rfl, H2.out.below⟩
          · rw [hd] at Hr
            have Hd := Lib.hid hd
            clear hd
            go_wp2_with (first
              | (with_reducible refine wpList_load_rng (ty := 38) b.fl.vals (by with_unfolding_all rfl) (Blk.box (H1.out.at 0 rfl)).range Tryd.underlying38 (by with_unfolding_all rfl) (by with_unfolding_all exact info38) ?_)
              | ((with_reducible refine (flagsF_any b.fl _).mono ?_)
                 rintro e w2 ⟨rfl, hb2⟩
                 rw [Hd.out]
                 have H2 := Lib.hid (H1.out.ext hb2)))
            go_meet
            exact ⟨H2, Lib.hid Hr.out⟩
        · have hb3 : (b.kind == 3) = false := by simp [k3]
          have Hr : Hid (b.okB = false) := Lib.hid (by unfold Bp.okB; rw [if_neg k2, if_neg k1, if_neg k3])
          clear k1 k2 k3
          go_wp2_with fail
          go_ret
          exact ⟨by rw [Hr.out]; rfl, H1.out.below⟩
  case rest =>
  obtain ⟨HS, HR⟩ := hcut
  clear H1 I1 c0
  generalize wc = w3 at *
  have HC : Hid (∀ W, St w.heap.size w W [bk P 38 b.fl.vals, bk w.heap.size 44 b.vals] → W.cell? ⟨w.heap.size, 16, none⟩ = some (.int .i64 b.cost) ∧ W.cell? ⟨w.heap.size, 17, none⟩ = some (.int .i64 b.sender.prio) ∧ W.cell? ⟨w.heap.size, 18, none⟩ = some (.int .i64 b.sender.ext) ∧ W.cell? ⟨w.heap.size, 19, none⟩ = some (.int .u8 b.sender.ad.a.toNat) ∧ W.cell? ⟨w.heap.size, 20, none⟩ = some (.int .u8 b.sender.ad.b.toNat) ∧ W.cell? ⟨w.heap.size, 21, none⟩ = some (.int .u8 b.sender.ad.c.toNat) ∧ W.cell? ⟨w.heap.size, 22, none⟩ = some (.int .u8 b.sender.ad.d.toNat) ∧ W.cell? ⟨w.heap.size, 23, none⟩ = some (.int .u8 b.sender.ad.e.toNat) ∧ W.cell? ⟨w.heap.size, 24, none⟩ = some (.int .u8 b.sender.ad.f.toNat) ∧ W.cell? ⟨w.heap.size, 25, none⟩ = some (.int .i64 b.port.prio) ∧ W.cell? ⟨w.heap.size, 26, none⟩ = some (.int .i64 b.port.no) ∧ W.cell? ⟨w.heap.size, 27, none⟩ = some (.int .i64 b.age) ∧ W.cell? ⟨w.heap.size, 28, none⟩ = some (.int .i64 b.max) ∧ W.cell? ⟨w.heap.size, 29, none⟩ = some (.int .i64 b.hello) ∧ W.cell? ⟨w.heap.size, 30, none⟩ = some (.int .i64 b.wait)) := Lib.hid (fun W h => by
    have B := Blk.box (h.at 1 rfl)
    exact ⟨B.cell 16, B.cell 17, B.cell 18, B.cell 19, B.cell 20, B.cell 21, B.cell 22, B.cell 23, B.cell 24, B.cell 25, B.cell 26, B.cell 27, B.cell 28, B.cell 29, B.cell 30⟩)
  have HSn : Hid (∀ W, Calls Tryd.prog 35 #[.agg #[.int .i64 b.sender.prio, .int .i64 b.sender.ext, .int .u8 b.sender.ad.a.toNat, .int .u8 b.sender.ad.b.toNat, .int .u8 b.sender.ad.c.toNat, .int .u8 b.sender.ad.d.toNat, .int .u8 b.sender.ad.e.toNat, .int .u8 b.sender.ad.f.toNat]] W fun e w' => e = .returned (.bool b.sender.okB) ∧ Below W.heap.size W w') := Lib.hid (fun W => prioRight_any b.sender W)
  have HPt : Hid (∀ W, Calls Tryd.prog 36 #[.agg #[.int .i64 b.port.prio, .int .i64 b.port.no]] W fun e w' => e = .returned (.bool b.port.okB) ∧ Below W.heap.size W w') := Lib.hid (fun W => prioPort_any b.port W)
  have hT : b.restB = (b.root.okB && (b.sender.okB && (b.port.okB && (decide (0 ≤ b.cost) && (decide (b.cost < 4294967296) && [b.age, b.max, b.hello, b.wait].all sh))))) := by simp [Bp.restB, tm, sh]
  have RT := Lib.hid (bp_in (Blk.box (HS.out.at 1 rfl))).root
  have HE := Lib.hid (HR.out.trans hT)
  clear hT HR
  cases hx : b.root.okB
  · rw [hx] at HE
    have Hx := Lib.hid hx
    clear hx
    go_wp2_with (first
      | (with_reducible refine wpList_load_rng (ty := 40) b.root.vals (by with_unfolding_all rfl) RT.out Tryd.underlying40 (by with_unfolding_all rfl) (by with_unfolding_all exact info40) ?_)
      | ((with_reducible refine (prioRight_any b.root w3).mono ?_)
         rintro e w4 ⟨rfl, hb4⟩
         rw [Hx.out]
         have H4 := Lib.hid (HS.out.ext hb4)
         obtain ⟨k16, k17, k18, k19, k20, k21, k22, k23, k24, k25, k26, k27, k28, k29, k30⟩ := HC.out _ H4.out
         clear hb4)
      | ((with_reducible refine (HSn.out _).mono ?_)
         rintro e w5 ⟨rfl, hb5⟩
         rw [Hy.out]
         have H5 := Lib.hid (H4.out.ext hb5)
         obtain ⟨k16, k17, k18, k19, k20, k21, k22, k23, k24, k25, k26, k27, k28, k29, k30⟩ := HC.out _ H5.out
         clear hb5)
      | ((with_reducible refine (HPt.out _).mono ?_)
         rintro e w6 ⟨rfl, hb6⟩
         rw [Hz.out]
         have H6 := Lib.hid (H5.out.ext hb6)
         obtain ⟨k16, k17, k18, k19, k20, k21, k22, k23, k24, k25, k26, k27, k28, k29, k30⟩ := HC.out _ H6.out
         clear hb6)
      | ((with_reducible refine (times_any [b.age, b.max, b.hello, b.wait] _ _ 4 rfl (by decide) _ (four_cells b.age b.max b.hello b.wait rfl)).mono ?_)
         rintro e w7 ⟨rfl, rfl⟩
         rw [Ht.out]))
    go_ret
    exact ⟨by rw [HE.out]; rfl, H4.out.below⟩
  · rw [hx] at HE
    have Hx := Lib.hid hx
    clear hx
    cases hy : b.sender.okB
    · rw [hy] at HE
      have Hy := Lib.hid hy
      clear hy
      go_wp2_with (first
        | (with_reducible refine wpList_load_rng (ty := 40) b.root.vals (by with_unfolding_all rfl) RT.out Tryd.underlying40 (by with_unfolding_all rfl) (by with_unfolding_all exact info40) ?_)
        | ((with_reducible refine (prioRight_any b.root w3).mono ?_)
           rintro e w4 ⟨rfl, hb4⟩
           rw [Hx.out]
           have H4 := Lib.hid (HS.out.ext hb4)
           obtain ⟨k16, k17, k18, k19, k20, k21, k22, k23, k24, k25, k26, k27, k28, k29, k30⟩ := HC.out _ H4.out
           clear hb4)
        | ((with_reducible refine (HSn.out _).mono ?_)
           rintro e w5 ⟨rfl, hb5⟩
           rw [Hy.out]
           have H5 := Lib.hid (H4.out.ext hb5)
           obtain ⟨k16, k17, k18, k19, k20, k21, k22, k23, k24, k25, k26, k27, k28, k29, k30⟩ := HC.out _ H5.out
           clear hb5)
        | ((with_reducible refine (HPt.out _).mono ?_)
           rintro e w6 ⟨rfl, hb6⟩
           rw [Hz.out]
           have H6 := Lib.hid (H5.out.ext hb6)
           obtain ⟨k16, k17, k18, k19, k20, k21, k22, k23, k24, k25, k26, k27, k28, k29, k30⟩ := HC.out _ H6.out
           clear hb6)
        | ((with_reducible refine (times_any [b.age, b.max, b.hello, b.wait] _ _ 4 rfl (by decide) _ (four_cells b.age b.max b.hello b.wait rfl)).mono ?_)
           rintro e w7 ⟨rfl, rfl⟩
           rw [Ht.out]))
      go_ret
      exact ⟨by rw [HE.out]; rfl, H5.out.below⟩
    · rw [hy] at HE
      have Hy := Lib.hid hy
      clear hy
      cases hz : b.port.okB
      · rw [hz] at HE
        have Hz := Lib.hid hz
        clear hz
        go_wp2_with (first
          | (with_reducible refine wpList_load_rng (ty := 40) b.root.vals (by with_unfolding_all rfl) RT.out Tryd.underlying40 (by with_unfolding_all rfl) (by with_unfolding_all exact info40) ?_)
          | ((with_reducible refine (prioRight_any b.root w3).mono ?_)
             rintro e w4 ⟨rfl, hb4⟩
             rw [Hx.out]
             have H4 := Lib.hid (HS.out.ext hb4)
             obtain ⟨k16, k17, k18, k19, k20, k21, k22, k23, k24, k25, k26, k27, k28, k29, k30⟩ := HC.out _ H4.out
             clear hb4)
          | ((with_reducible refine (HSn.out _).mono ?_)
             rintro e w5 ⟨rfl, hb5⟩
             rw [Hy.out]
             have H5 := Lib.hid (H4.out.ext hb5)
             obtain ⟨k16, k17, k18, k19, k20, k21, k22, k23, k24, k25, k26, k27, k28, k29, k30⟩ := HC.out _ H5.out
             clear hb5)
          | ((with_reducible refine (HPt.out _).mono ?_)
             rintro e w6 ⟨rfl, hb6⟩
             rw [Hz.out]
             have H6 := Lib.hid (H5.out.ext hb6)
             obtain ⟨k16, k17, k18, k19, k20, k21, k22, k23, k24, k25, k26, k27, k28, k29, k30⟩ := HC.out _ H6.out
             clear hb6)
          | ((with_reducible refine (times_any [b.age, b.max, b.hello, b.wait] _ _ 4 rfl (by decide) _ (four_cells b.age b.max b.hello b.wait rfl)).mono ?_)
             rintro e w7 ⟨rfl, rfl⟩
             rw [Ht.out]))
        go_ret
        exact ⟨by rw [HE.out]; rfl, H6.out.below⟩
      · rw [hz] at HE
        have Hz := Lib.hid hz
        clear hz
        by_cases hc0 : 0 ≤ b.cost
        · by_cases hc1 : b.cost < 4294967296
          · cases ht : [b.age, b.max, b.hello, b.wait].all sh
            all_goals
              rw [ht, decide_eq_true hc0, decide_eq_true hc1] at HE
              have Ht := Lib.hid ht
              clear ht
              go_wp2_with (first
                | (with_reducible refine wpList_load_rng (ty := 40) b.root.vals (by with_unfolding_all rfl) RT.out Tryd.underlying40 (by with_unfolding_all rfl) (by with_unfolding_all exact info40) ?_)
                | ((with_reducible refine (prioRight_any b.root w3).mono ?_)
                   rintro e w4 ⟨rfl, hb4⟩
                   rw [Hx.out]
                   have H4 := Lib.hid (HS.out.ext hb4)
                   obtain ⟨k16, k17, k18, k19, k20, k21, k22, k23, k24, k25, k26, k27, k28, k29, k30⟩ := HC.out _ H4.out
                   clear hb4)
                | ((with_reducible refine (HSn.out _).mono ?_)
                   rintro e w5 ⟨rfl, hb5⟩
                   rw [Hy.out]
                   have H5 := Lib.hid (H4.out.ext hb5)
                   obtain ⟨k16, k17, k18, k19, k20, k21, k22, k23, k24, k25, k26, k27, k28, k29, k30⟩ := HC.out _ H5.out
                   clear hb5)
                | ((with_reducible refine (HPt.out _).mono ?_)
                   rintro e w6 ⟨rfl, hb6⟩
                   rw [Hz.out]
                   have H6 := Lib.hid (H5.out.ext hb6)
                   obtain ⟨k16, k17, k18, k19, k20, k21, k22, k23, k24, k25, k26, k27, k28, k29, k30⟩ := HC.out _ H6.out
                   clear hb6)
                | ((with_reducible refine (times_any [b.age, b.max, b.hello, b.wait] _ _ 4 rfl (by decide) _ (four_cells b.age b.max b.hello b.wait rfl)).mono ?_)
                   rintro e w7 ⟨rfl, rfl⟩
                   rw [Ht.out]))
              go_ret
              exact ⟨by rw [HE.out]; rfl, H6.out.below.alloc H6.out.below.size _⟩
          · rw [decide_eq_true hc0, decide_eq_false hc1] at HE
            go_wp2_with (first
              | (with_reducible refine wpList_load_rng (ty := 40) b.root.vals (by with_unfolding_all rfl) RT.out Tryd.underlying40 (by with_unfolding_all rfl) (by with_unfolding_all exact info40) ?_)
              | ((with_reducible refine (prioRight_any b.root w3).mono ?_)
                 rintro e w4 ⟨rfl, hb4⟩
                 rw [Hx.out]
                 have H4 := Lib.hid (HS.out.ext hb4)
                 obtain ⟨k16, k17, k18, k19, k20, k21, k22, k23, k24, k25, k26, k27, k28, k29, k30⟩ := HC.out _ H4.out
                 clear hb4)
              | ((with_reducible refine (HSn.out _).mono ?_)
                 rintro e w5 ⟨rfl, hb5⟩
                 rw [Hy.out]
                 have H5 := Lib.hid (H4.out.ext hb5)
                 obtain ⟨k16, k17, k18, k19, k20, k21, k22, k23, k24, k25, k26, k27, k28, k29, k30⟩ := HC.out _ H5.out
                 clear hb5)
              | ((with_reducible refine (HPt.out _).mono ?_)
                 rintro e w6 ⟨rfl, hb6⟩
                 rw [Hz.out]
                 have H6 := Lib.hid (H5.out.ext hb6)
                 obtain ⟨k16, k17, k18, k19, k20, k21, k22, k23, k24, k25, k26, k27, k28, k29, k30⟩ := HC.out _ H6.out
                 clear hb6)
              | ((with_reducible refine (times_any [b.age, b.max, b.hello, b.wait] _ _ 4 rfl (by decide) _ (four_cells b.age b.max b.hello b.wait rfl)).mono ?_)
                 rintro e w7 ⟨rfl, rfl⟩
                 rw [Ht.out]))
            go_ret
            exact ⟨by rw [HE.out]; rfl, H6.out.below⟩
        · rw [decide_eq_false hc0] at HE
          go_wp2_with (first
            | (with_reducible refine wpList_load_rng (ty := 40) b.root.vals (by with_unfolding_all rfl) RT.out Tryd.underlying40 (by with_unfolding_all rfl) (by with_unfolding_all exact info40) ?_)
            | ((with_reducible refine (prioRight_any b.root w3).mono ?_)
               rintro e w4 ⟨rfl, hb4⟩
               rw [Hx.out]
               have H4 := Lib.hid (HS.out.ext hb4)
               obtain ⟨k16, k17, k18, k19, k20, k21, k22, k23, k24, k25, k26, k27, k28, k29, k30⟩ := HC.out _ H4.out
               clear hb4)
            | ((with_reducible refine (HSn.out _).mono ?_)
               rintro e w5 ⟨rfl, hb5⟩
               rw [Hy.out]
               have H5 := Lib.hid (H4.out.ext hb5)
               obtain ⟨k16, k17, k18, k19, k20, k21, k22, k23, k24, k25, k26, k27, k28, k29, k30⟩ := HC.out _ H5.out
               clear hb5)
            | ((with_reducible refine (HPt.out _).mono ?_)
               rintro e w6 ⟨rfl, hb6⟩
               rw [Hz.out]
               have H6 := Lib.hid (H5.out.ext hb6)
               obtain ⟨k16, k17, k18, k19, k20, k21, k22, k23, k24, k25, k26, k27, k28, k29, k30⟩ := HC.out _ H6.out
               clear hb6)
            | ((with_reducible refine (times_any [b.age, b.max, b.hello, b.wait] _ _ 4 rfl (by decide) _ (four_cells b.age b.max b.hello b.wait rfl)).mono ?_)
               rintro e w7 ⟨rfl, rfl⟩
               rw [Ht.out]))
          go_ret
          exact ⟨by rw [HE.out]; rfl, H6.out.below⟩
end Go.Proofs.YtidcjbanhdpkkaaDoor
namespace Go.Proofs.YtidcjbanhdpkkaaDoor
open Go.RowKit
theorem and_mod (n k : Nat) (hn : n < 65536) (hk : k ≤ 16) : bits .and .i64 (n : Int) ((2 ^ k - 1 : Nat) : Int) = ((n % 2 ^ k : Nat) : Int) := by
  have hlt : 2 ^ k - 1 < 65536 := Nat.lt_of_lt_of_le (Nat.sub_lt (Nat.two_pow_pos k) (by decide)) (Nat.pow_le_pow_right (n := 2) (by decide) hk)
  have h1 : (BitVec.ofInt 64 (n : Int)).toNat = n := by rw [BitVec.ofInt_natCast, BitVec.toNat_ofNat]; exact Nat.mod_eq_of_lt (by omega)
  have h2 : (BitVec.ofInt 64 ((2 ^ k - 1 : Nat) : Int)).toNat = 2 ^ k - 1 := by rw [BitVec.ofInt_natCast, BitVec.toNat_ofNat]; exact Nat.mod_eq_of_lt (by omega)
  show IntKind.i64.wrap ((BitVec.ofInt 64 (n : Int) &&& BitVec.ofInt 64 ((2 ^ k - 1 : Nat) : Int)).toNat : Int) = _
  rw [BitVec.toNat_and, h1, h2, IntKind.wrap_i64, Nat.and_two_pow_sub_one_eq_mod]
  have := Nat.mod_le n (2 ^ k)
  omega
theorem andNot_mod (n k : Nat) (hn : n < 65536) (hk : k ≤ 16) : bits .andNot .i64 (n : Int) ((2 ^ k - 1 : Nat) : Int) = ((n / 2 ^ k * 2 ^ k : Nat) : Int) := by
  have hlt : 2 ^ k - 1 < 65536 := Nat.lt_of_lt_of_le (Nat.sub_lt (Nat.two_pow_pos k) (by decide)) (Nat.pow_le_pow_right (n := 2) (by decide) hk)
  have h1 : (BitVec.ofInt 64 (n : Int)) = BitVec.ofNat 64 n := BitVec.ofInt_natCast ..
  have h2 : (BitVec.ofInt 64 ((2 ^ k - 1 : Nat) : Int)) = BitVec.ofNat 64 (2 ^ k - 1) := BitVec.ofInt_natCast ..
  have e : (BitVec.ofNat 64 n &&& ~~~ BitVec.ofNat 64 (2 ^ k - 1)).toNat = n / 2 ^ k * 2 ^ k := by
    apply Nat.eq_of_testBit_eq
    intro i
    rw [BitVec.testBit_toNat, BitVec.getLsbD_and, BitVec.getLsbD_not, BitVec.getLsbD_ofNat, BitVec.getLsbD_ofNat, Nat.testBit_two_pow_sub_one, Nat.mul_comm, Nat.testBit_two_pow_mul, Nat.testBit_div_two_pow]
    by_cases hi : i < 64
    · by_cases hki : i < k
      · simp [hki]; omega
      · have : k ≤ i := by omega
        simp [hi, hki, this]
    · have hb : n.testBit i = false := Nat.testBit_lt_two_pow (Nat.lt_of_lt_of_le hn (Nat.pow_le_pow_right (n := 2) (by decide) (show 16 ≤ i by omega)))
      by_cases hki : k ≤ i
      · simp [hi, hb, hki]
      · omega
  show IntKind.i64.wrap ((BitVec.ofInt 64 (n : Int) &&& ~~~ BitVec.ofInt 64 ((2 ^ k - 1 : Nat) : Int)).toNat : Int) = _
  rw [h1, h2, e, IntKind.wrap_i64]
  have := Nat.div_mul_le_self n (2 ^ k)
  omega
theorem br_built (p x : Nat) : Tryd.prog.built 40 [(0, .int .i64 (p : Int)), (1, .int .i64 (x : Int))] = some (Br.vals ⟨(p : Int), (x : Int), Ad.of []⟩).toArray := by kernel_rfl
theorem pt_built (p x : Nat) : Tryd.prog.built 42 [(0, .int .i64 (p : Int)), (1, .int .i64 (x : Int))] = some (Pt.vals ⟨(p : Int), (x : Int)⟩).toArray := by kernel_rfl
@[reducible] def zBr : List Value := [.int .i64 0, .int .i64 0, .int .u8 0, .int .u8 0, .int .u8 0, .int .u8 0, .int .u8 0, .int .u8 0]
@[reducible] def zPt : List Value := [.int .i64 0, .int .i64 0]
section
variable {B : Nat} {w0 w : World} {A : List It} {b g : Nat} {R : RS}
set_option maxRecDepth 100000 in
set_option maxHeartbeats 2000000 in
theorem readBr_st (H : St B w0 w (rd b R g :: A)) :
    Calls Tryd.prog 72 #[.pointer (some ⟨b, 0, none⟩)] w fun e w' => e = .returned (.agg (readBrM R).1.vals.toArray) ∧ RdTo B w0 b (readBrM R).2 A w' := by
  have H1 := Lib.hid (H.alloc zBr 40).swap
  clear H
  go_enter Tryd.func72, Tryd.ntmps72
  go_upto_region 1 with (fail)
  unfold zBr at H1
  generalize World.alloc _ _ = w1 at *
  have H1 : Hid (St B w0 w1 (rd b R g :: bk w.heap.size 40 Br.zero.vals :: A)) := H1
  go_wp2_with fail
  refine (num_e H1.out 2 (by decide) (by decide)).mono ?_
  rintro e w2 ⟨n2, R2, e2, l2, rfl, g2, h2⟩
  have E2 := Lib.hid e2
  have H2 := Lib.hid h2
  clear e2 h2 H1
  have hA : bits .andNot .i64 (n2 : Int) 4095 = ((n2 / 4096 * 4096 : Nat) : Int) := andNot_mod n2 12 (by omega) (by decide)
  have hB : bits .and .i64 (n2 : Int) 4095 = ((n2 % 4096 : Nat) : Int) := and_mod n2 12 (by omega) (by decide)
  generalize hp : n2 / 4096 * 4096 = p at *
  generalize hx : n2 % 4096 = x at *
  have Hp := Lib.hid hp
  have Hx := Lib.hid hx
  clear hp hx
  have PB := Lib.hid (br_built p x)
  go_upto_region 3 with (first
    | (with_reducible refine wpList_buildA (t := 40) [(0, .int .i64 (p : Int)), (1, .int .i64 (x : Int))] (Br.vals ⟨(p : Int), (x : Int), Ad.of []⟩) (by with_unfolding_all rfl) PB.out ?_)
    | (with_reducible refine wpList_store_blk (ty := 40) (o := 0) _ (Br.vals ⟨(p : Int), (x : Int), Ad.of []⟩) (by with_unfolding_all rfl) (by with_unfolding_all rfl) (Blk.new w2 zBr 40) (by with_unfolding_all exact Nat.le_refl _) (by with_unfolding_all exact info40) (Br.one _) (fun W3 hBW3 hoW3 => ?_)))
  have H3 : Hid (St B w0 W3 (rd b R2 g2 :: bk w2.heap.size 40 (Br.vals ⟨(p : Int), (x : Int), Ad.of []⟩) :: bk w.heap.size 40 Br.zero.vals :: A)) := Lib.hid ((H2.out.alloc zBr 40).sets (L' := Br.vals ⟨(p : Int), (x : Int), Ad.of []⟩) hBW3 hoW3).swap
  clear hBW3 hoW3 H2
  generalize w2.heap.size = P at *
  refine wp_region_last (fun _ => True) 4 (by kernel_rfl) trivial (fun hHeld => ?_)
  refine wpAnyG_take 0 (oi := ?o49) ?v49 ?hi49 (by kernel_rfl) (by kernel_rfl) (by decide) (by kernel_rfl) (by kernel_rfl) ?hq49 ?hg49 ?hy49 (by assumption) ?hk49
  case hi49 => (simp only [List.getElem?_toArray, List.getElem?_cons_succ, List.getElem?_cons_zero]; rfl)
  case hq49 => exact fun _ _ _ h => h
  case hg49 => rfl
  case hy49 => (intro X hX; go_simp; try with_reducible rfl)
  try simp only [Act.put, List.setIfInBounds_toArray, List.set_cons_zero, List.set_cons_succ]
  refine wpAnyG_take 1 (oi := ?o50) ?v50 ?hi50 (by kernel_rfl) (by kernel_rfl) (by decide) (by kernel_rfl) (by kernel_rfl) ?hq50 ?hg50 ?hy50 (by assumption) ?hk50
  case hi50 => (simp only [List.getElem?_toArray, List.getElem?_cons_succ, List.getElem?_cons_zero]; rfl)
  case hq50 => exact fun _ _ _ h => h
  case hg50 => rfl
  case hy50 => (intro X hX; go_simp; try with_reducible rfl)
  try simp only [Act.put, List.setIfInBounds_toArray, List.set_cons_zero, List.set_cons_succ]
  refine wpAnyG_take 2 (oi := ?o51) ?v51 ?hi51 (by kernel_rfl) (by kernel_rfl) (by decide) (by kernel_rfl) (by kernel_rfl) ?hq51 ?hg51 ?hy51 (by assumption) ?hk51
  case hi51 => (simp only [List.getElem?_toArray, List.getElem?_cons_succ, List.getElem?_cons_zero]; rfl)
  case hq51 => exact fun _ _ _ h => h
  case hg51 => rfl
  case hy51 => (intro X hX; go_simp; try with_reducible rfl)
  try simp only [Act.put, List.setIfInBounds_toArray, List.set_cons_zero, List.set_cons_succ]
  refine wpAnyG_one 3 (o := ?o52) (by kernel_rfl) ?hi52 ?hg52 ?hk52
  case hi52 => (simp only [List.getElem?_toArray, List.getElem?_cons_succ, List.getElem?_cons_zero]; rfl)
  case hg52 => rfl
  intro K hK
  go_simp
  refine (bytes_e H3.out.drew 6 (by decide)).mono ?_
  rintro e w7 ⟨n7, R7, e7, l7, rfl, g7, h7⟩
  have E7 := Lib.hid e7
  have H7 := Lib.hid h7
  refine hK.out _ _ (fun _ => trivial) (fun _ => ?_)
  clear e7 h7 H3 hK K
  try simp only [Act.put, List.setIfInBounds_toArray, List.set_cons_zero, List.set_cons_succ]
  refine wpAnyG_one 4 (o := ?o53) (by kernel_rfl) ?hi53 ?hg53 ?hk53
  case hi53 => (simp only [List.getElem?_toArray, List.getElem?_cons_succ, List.getElem?_cons_zero]; rfl)
  case hg53 => rfl
  intro K hK
  have h7' : St B w0 w7 (bk P 40 ([.int .i64 (p : Int), .int .i64 (x : Int)] ++ (zero6 ++ [])) :: rd b R7 g7 :: bk w.heap.size 40 Br.zero.vals :: A) := H7.out.pull 1 rfl
  refine Lib.wp_copy_run _ (.tmp 13) (.tmp 15) 92 9 rfl _ _ rfl rfl (copyAd_run [.int .i64 (p : Int), .int .i64 (x : Int)] [] 2 6 n7 h7' rfl l7 _) ?_
  refine hK.out _ _ (fun h => absurd rfl h) (fun _ => ?_)
  refine wpAnyG_done (by kernel_rfl) ?_ _
  have H8 : Hid (St B w0 _ (rd b R7 g7 :: bk P 40 (Br.vals ⟨(p : Int), (x : Int), Ad.of n7⟩) :: bk w.heap.size 40 Br.zero.vals :: A)) := Lib.hid (St.copyAd [.int .i64 (p : Int), .int .i64 (x : Int)] [] 2 n7 h7' rfl l7).swap
  clear h7' hK K H7
  generalize World.setRow _ _ _ = w8 at *
  have R8' := Lib.hid (Blk.box (H8.out.at 1 rfl)).range
  have B8' := Lib.hid (H8.out.at 2 rfl)
  go_wp2_with (first
    | (with_reducible refine wpList_load_rng (ty := 40) (Br.vals ⟨(p : Int), (x : Int), Ad.of n7⟩) (by with_unfolding_all rfl) R8'.out Tryd.underlying40 (by with_unfolding_all rfl) (by with_unfolding_all exact info40) ?_)
    | (with_reducible refine wpList_store_blk (ty := 40) (o := 0) _ (Br.vals ⟨(p : Int), (x : Int), Ad.of n7⟩) (by with_unfolding_all rfl) (by with_unfolding_all rfl) B8'.out (by with_unfolding_all exact Nat.le_refl _) (by with_unfolding_all exact info40) (Br.one _) (fun W9 hBW9 hoW9 => ?_)))
  have hE : readBrM R = (⟨(p : Int), (x : Int), Ad.of n7⟩, R7) := by
    unfold readBrM
    simp only [E2.out, E7.out, Hp.out, Hx.out]
  rw [hE]
  have h9 := (H8.out.pull 2 rfl).sets (L' := Br.vals ⟨(p : Int), (x : Int), Ad.of n7⟩) hBW9 hoW9
  refine ret_cell (cs := Br.vals ⟨(p : Int), (x : Int), Ad.of n7⟩) Tryd.results72 (by rfl) (Blk.box h9.head).range Tryd.underlying40 rfl info40 rfl ⟨rfl, g7, (h9.tail.swap).tail⟩
set_option maxRecDepth 100000 in
set_option maxHeartbeats 2000000 in
theorem readPt_st (H : St B w0 w (rd b R g :: A)) :
    Calls Tryd.prog 73 #[.pointer (some ⟨b, 0, none⟩)] w fun e w' => e = .returned (.agg (readPtM R).1.vals.toArray) ∧ RdTo B w0 b (readPtM R).2 A w' := by
  have H1 := Lib.hid (H.alloc zPt 42).swap
  clear H
  go_enter Tryd.func73, Tryd.ntmps73
  go_upto_region 1 with (fail)
  unfold zPt at H1
  generalize World.alloc _ _ = w1 at *
  have H1 : Hid (St B w0 w1 (rd b R g :: bk w.heap.size 42 Pt.zero.vals :: A)) := H1
  go_wp2_with fail
  refine (at_st H1.out).mono ?_
  rintro e w2 ⟨rfl, h2⟩
  have H2 := Lib.hid h2
  clear h2 H1
  go_wp2_with fail
  refine (num_e H2.out 2 (by decide) (by decide)).mono ?_
  rintro e w3 ⟨n3, R3, e3, l3, rfl, g3, h3⟩
  have E3 := Lib.hid e3
  have H3 := Lib.hid h3
  clear e3 h3 H2
  have hA : bits .andNot .i64 ((n3 : Int) / 256) 15 = ((n3 / 4096 * 16 : Nat) : Int) := by
    have := andNot_mod (n3 / 256) 4 (by omega) (by decide)
    rw [show n3 / 256 / 2 ^ 4 * 2 ^ 4 = n3 / 4096 * 16 by omega] at this
    simpa using this
  have hB : bits .and .i64 (n3 : Int) 4095 = ((n3 % 4096 : Nat) : Int) := and_mod n3 12 (by omega) (by decide)
  generalize hp : n3 / 4096 * 16 = p at *
  generalize hx : n3 % 4096 = x at *
  have Hp := Lib.hid hp
  have Hx := Lib.hid hx
  clear hp hx
  have PB := Lib.hid (pt_built p x)
  go_upto_region 4 with (first
    | (with_reducible refine wpList_buildA (t := 42) [(0, .int .i64 (p : Int)), (1, .int .i64 (x : Int))] (Pt.vals ⟨(p : Int), (x : Int)⟩) (by with_unfolding_all rfl) PB.out ?_)
    | (with_reducible refine wpList_store_blk (ty := 42) (o := 0) _ (Pt.vals ⟨(p : Int), (x : Int)⟩) (by with_unfolding_all rfl) (by with_unfolding_all rfl) (Blk.new w3 zPt 42) (by with_unfolding_all exact Nat.le_refl _) (by with_unfolding_all exact info42) (Pt.one _) (fun W4 hBW4 hoW4 => ?_)))
  have H4 : Hid (St B w0 W4 (rd b R3 g3 :: bk w3.heap.size 42 (Pt.vals ⟨(p : Int), (x : Int)⟩) :: bk w.heap.size 42 Pt.zero.vals :: A)) := Lib.hid ((H3.out.alloc zPt 42).sets (L' := Pt.vals ⟨(p : Int), (x : Int)⟩) hBW4 hoW4).swap
  clear hBW4 hoW4 H3 hA hB
  generalize w3.heap.size = P at *
  have c1 : W4.cell? ⟨P, 1, none⟩ = some (.int .i64 (x : Int)) := (H4.out.pull 1 rfl).cell 1
  obtain ⟨cond, hcd⟩ : ∃ c, decide (R3.err = none ∧ x = 0) = c := ⟨_, rfl⟩
  have Hcd := Lib.hid hcd
  clear hcd
  go_cut [23] (fun c wx => c = .bool cond ∧ wx = W4)
  case first =>
    cases he : R3.err with
    | some y =>
      obtain rfl : cond = false := by rw [← Hcd.out, he]; simp
      have He := Lib.hid (errV_some he g3)
      clear he
      go_wp2_with (first
        | ((with_reducible refine (err_st H4.out).mono ?_)
           rintro e w6 ⟨rfl, rfl⟩
           rw [He.out]))
      go_meet
      exact ⟨rfl, rfl⟩
    | none =>
      have He := Lib.hid (errV_none he g3)
      by_cases h0 : x = 0
      · obtain rfl : cond = true := by rw [← Hcd.out, he]; simp [h0]
        have hb0 : ((x : Int) == 0) = true := by rw [h0]; rfl
        clear he h0
        go_wp2_with (first
          | ((with_reducible refine (err_st H4.out).mono ?_)
             rintro e w6 ⟨rfl, rfl⟩
             rw [He.out]))
        go_meet
        exact ⟨rfl, rfl⟩
      · obtain rfl : cond = false := by rw [← Hcd.out, he]; simp [h0]
        have hb0 : ((x : Int) == 0) = false := by rw [beq_eq_false_iff_ne]; omega
        clear he h0
        go_wp2_with (first
          | ((with_reducible refine (err_st H4.out).mono ?_)
             rintro e w6 ⟨rfl, rfl⟩
             rw [He.out]))
        go_meet
        exact ⟨rfl, rfl⟩
  case rest =>
  obtain ⟨rfl, rfl⟩ := hcut
  go_upto_if 23 with (fail)
  go_cut [] (fun wx => RdTo B w0 b (if cond = true then failM R3 2 (R.place : Int) else R3) (bk P 42 (Pt.vals ⟨(p : Int), (x : Int)⟩) :: bk w.heap.size 42 Pt.zero.vals :: A) wx)
  case first =>
    cases cond
    · go_wp2_with fail
      go_meet
      exact ⟨g3, H4.out⟩
    · go_wp2_with (first
        | ((with_reducible refine (fail_st H4.out 2 _).mono ?_)
           rintro e w6 ⟨rfl, h6⟩
           have H6 := Lib.hid h6
           clear h6))
      go_meet
      exact H6.out
  case rest =>
  have hE : readPtM R = (⟨(p : Int), (x : Int)⟩, if cond = true then failM R3 2 (R.place : Int) else R3) := by
    unfold readPtM
    simp only [E3.out, Hp.out, Hx.out, ← Hcd.out, decide_eq_true_eq]
  generalize (if cond = true then failM R3 2 (R.place : Int) else R3) = R5 at *
  have HE := Lib.hid hE
  obtain ⟨g5, h5⟩ := hcut
  have H5 := Lib.hid h5
  clear h5 hE H4 c1
  generalize wc = w5 at *
  have R5' := Lib.hid (Blk.box (H5.out.at 1 rfl)).range
  have B5' := Lib.hid (H5.out.at 2 rfl)
  go_wp2_with (first
    | (with_reducible refine wpList_load_rng (ty := 42) (Pt.vals ⟨(p : Int), (x : Int)⟩) (by with_unfolding_all rfl) R5'.out Tryd.underlying42 (by with_unfolding_all rfl) (by with_unfolding_all exact info42) ?_)
    | (with_reducible refine wpList_store_blk (ty := 42) (o := 0) _ (Pt.vals ⟨(p : Int), (x : Int)⟩) (by with_unfolding_all rfl) (by with_unfolding_all rfl) B5'.out (by with_unfolding_all exact Nat.le_refl _) (by with_unfolding_all exact info42) (Pt.one _) (fun W9 hBW9 hoW9 => ?_)))
  rw [HE.out]
  have h9 := (H5.out.pull 2 rfl).sets (L' := Pt.vals ⟨(p : Int), (x : Int)⟩) hBW9 hoW9
  refine ret_cell (cs := Pt.vals ⟨(p : Int), (x : Int)⟩) Tryd.results73 (by rfl) (Blk.box h9.head).range Tryd.underlying42 rfl info42 rfl ⟨rfl, g5, (h9.tail.swap).tail⟩
end
end Go.Proofs.YtidcjbanhdpkkaaDoor
namespace Go.Proofs.YtidcjbanhdpkkaaDoor
open Go.RowKit
def bodyOf (kind : Int) (f : Fl) (r : Br) (c : Int) (s : Br) (p : Pt) : Bp := ⟨kind, f, r, c, s, p, 0, 0, 0, 0⟩
theorem kind_built (kind : Int) : Tryd.prog.built 44 [(0, .int .i64 kind)] = some (bodyOf kind Fl.zero Br.zero 0 Br.zero Pt.zero).vals.toArray := by kernel_rfl
@[reducible] def zBp : List Value := [.int .i64 0, .bool false, .bool false, .int .i64 0, .bool false, .bool false, .bool false, .bool false, .int .i64 0, .int .i64 0, .int .u8 0, .int .u8 0, .int .u8 0, .int .u8 0, .int .u8 0, .int .u8 0, .int .i64 0, .int .i64 0, .int .i64 0, .int .u8 0, .int .u8 0, .int .u8 0, .int .u8 0, .int .u8 0, .int .u8 0, .int .i64 0, .int .i64 0, .int .i64 0, .int .i64 0, .int .i64 0, .int .i64 0]
section
variable {B : Nat} {w0 w : World} {A : List It} {b g : Nat} {R : RS}
theorem readBr_e (H : St B w0 w (rd b R g :: A)) :
    Calls Tryd.prog 72 #[.pointer (some ⟨b, 0, none⟩)] w fun e w' => ∃ x R', readBrM R = (x, R') ∧ e = .returned (.agg x.vals.toArray) ∧ RdTo B w0 b R' A w' :=
  (readBr_st H).mono fun _ _ h => ⟨_, _, rfl, h.1, h.2⟩
theorem readPt_e (H : St B w0 w (rd b R g :: A)) :
    Calls Tryd.prog 73 #[.pointer (some ⟨b, 0, none⟩)] w fun e w' => ∃ x R', readPtM R = (x, R') ∧ e = .returned (.agg x.vals.toArray) ∧ RdTo B w0 b R' A w' :=
  (readPt_st H).mono fun _ _ h => ⟨_, _, rfl, h.1, h.2⟩
set_option maxRecDepth 100000 in
set_option maxHeartbeats 4000000 in
theorem readBody_st (H : St B w0 w (rd b R g :: A)) (kind : Int) :
    Calls Tryd.prog 41 #[.pointer (some ⟨b, 0, none⟩), .int .i64 kind] w fun e w' => e = .returned (.agg (readBodyM R kind).1.vals.toArray) ∧ RdTo B w0 b (readBodyM R kind).2 A w' := by
  have H1 := Lib.hid (H.alloc zBp 44).swap
  clear H
  have PB := Lib.hid (kind_built kind)
  go_enter Tryd.func41, Tryd.ntmps41
  go_upto_region 1 with (fail)
  unfold zBp at H1
  generalize World.alloc _ _ = w1 at *
  have H1 : Hid (St B w0 w1 (rd b R g :: bk w.heap.size 44 Bp.zero.vals :: A)) := H1
  go_upto_region 2 with (first
    | (with_reducible refine wpList_buildA (t := 44) [(0, .int .i64 kind)] (bodyOf kind Fl.zero Br.zero 0 Br.zero Pt.zero).vals (by with_unfolding_all rfl) PB.out ?_)
    | (with_reducible refine wpList_store_blk (ty := 44) (o := 0) _ (bodyOf kind Fl.zero Br.zero 0 Br.zero Pt.zero).vals (by with_unfolding_all rfl) (by with_unfolding_all rfl) (Blk.new w1 zBp 44) (by with_unfolding_all exact Nat.le_refl _) (by with_unfolding_all exact info44) (Bp.one _) (fun W2 hBW2 hoW2 => ?_)))
  have H2 : Hid (St B w0 W2 (rd b R g :: bk w1.heap.size 44 (bodyOf kind Fl.zero Br.zero 0 Br.zero Pt.zero).vals :: bk w.heap.size 44 Bp.zero.vals :: A)) := Lib.hid ((H1.out.alloc zBp 44).sets (L' := (bodyOf kind Fl.zero Br.zero 0 Br.zero Pt.zero).vals) hBW2 hoW2).swap
  clear hBW2 hoW2 H1
  generalize w1.heap.size = P at *
  go_wp2_with fail
  refine (num_e H2.out 1 (by decide) (by decide)).mono ?_
  rintro e w3 ⟨n3, R3, e3, l3, rfl, g3, h3⟩
  have E3 := Lib.hid e3
  have H3 := Lib.hid h3
  clear e3 h3 H2
  go_upto_region 3 with (first
    | ((with_reducible refine (of_any n3 (by omega) _).mono ?_)
       rintro e w4 ⟨rfl, hb4⟩
       have H4 := Lib.hid (H3.out.ext hb4)
       clear hb4)
    | (with_reducible refine wpList_store_blk (ty := 38) (o := 1) _ (Fl.of n3).vals (by with_unfolding_all rfl) (by with_unfolding_all rfl) (H4.out.at 1 rfl) (by with_unfolding_all exact Nat.le_of_ble_eq_true rfl) (by with_unfolding_all exact info38) (Fl.one _) (fun W5 hBW5 hoW5 => ?_)))
  have H5 : Hid (St B w0 W5 (rd b R3 g3 :: bk P 44 (bodyOf kind (Fl.of n3) Br.zero 0 Br.zero Pt.zero).vals :: bk w.heap.size 44 Bp.zero.vals :: A)) := Lib.hid ((H4.out.pull 1 rfl).sets (L' := (bodyOf kind (Fl.of n3) Br.zero 0 Br.zero Pt.zero).vals) hBW5 hoW5).swap
  clear hBW5 hoW5 H4 H3
  go_wp2_with fail
  refine (readBr_e H5.out).mono ?_
  rintro e w6 ⟨x6, R6, e6, rfl, g6, h6⟩
  have E6 := Lib.hid e6
  have H6 := Lib.hid h6
  clear e6 h6 H5
  go_upto_region 4 with (first
    | (with_reducible refine wpList_store_blk (ty := 40) (o := 8) _ x6.vals (by with_unfolding_all rfl) (by with_unfolding_all rfl) (H6.out.at 1 rfl) (by with_unfolding_all exact Nat.le_of_ble_eq_true rfl) (by with_unfolding_all exact info40) (Br.one _) (fun W7 hBW7 hoW7 => ?_)))
  have H7 : Hid (St B w0 W7 (rd b R6 g6 :: bk P 44 (bodyOf kind (Fl.of n3) x6 0 Br.zero Pt.zero).vals :: bk w.heap.size 44 Bp.zero.vals :: A)) := Lib.hid ((H6.out.pull 1 rfl).sets (L' := (bodyOf kind (Fl.of n3) x6 0 Br.zero Pt.zero).vals) hBW7 hoW7).swap
  clear hBW7 hoW7 H6
  go_wp2_with fail
  refine (num_e H7.out 4 (by decide) (by decide)).mono ?_
  rintro e w8 ⟨n8, R8, e8, l8, rfl, g8, h8⟩
  have E8 := Lib.hid e8
  have H8 := Lib.hid h8
  clear e8 h8 H7
  have c8 : w8.cell? ⟨P, 16, none⟩ = some (.int .i64 0) := (H8.out.pull 1 rfl).cell 16
  have z8 := (H8.out.pull 1 rfl).frozen 16
  go_upto_region 5 with (fail)
  have H9 : Hid (St B w0 _ (rd b R8 g8 :: bk P 44 (bodyOf kind (Fl.of n3) x6 n8 Br.zero Pt.zero).vals :: bk w.heap.size 44 Bp.zero.vals :: A)) := Lib.hid ((H8.out.pull 1 rfl).set 16 (.int .i64 (n8 : Int)) (by rw [Bp.len]; decide)).swap
  clear c8 z8 H8
  generalize World.setCell _ _ _ = w9 at *
  go_wp2_with fail
  refine (readBr_e H9.out).mono ?_
  rintro e w10 ⟨x10, R10, e10, rfl, g10, h10⟩
  have E10 := Lib.hid e10
  have H10 := Lib.hid h10
  clear e10 h10 H9
  go_upto_region 6 with (first
    | (with_reducible refine wpList_store_blk (ty := 40) (o := 17) _ x10.vals (by with_unfolding_all rfl) (by with_unfolding_all rfl) (H10.out.at 1 rfl) (by with_unfolding_all exact Nat.le_of_ble_eq_true rfl) (by with_unfolding_all exact info40) (Br.one _) (fun W11 hBW11 hoW11 => ?_)))
  have H11 : Hid (St B w0 W11 (rd b R10 g10 :: bk P 44 (bodyOf kind (Fl.of n3) x6 n8 x10 Pt.zero).vals :: bk w.heap.size 44 Bp.zero.vals :: A)) := Lib.hid ((H10.out.pull 1 rfl).sets (L' := (bodyOf kind (Fl.of n3) x6 n8 x10 Pt.zero).vals) hBW11 hoW11).swap
  clear hBW11 hoW11 H10
  go_wp2_with fail
  refine (readPt_e H11.out).mono ?_
  rintro e w12 ⟨x12, R12, e12, rfl, g12, h12⟩
  have E12 := Lib.hid e12
  have H12 := Lib.hid h12
  clear e12 h12 H11
  go_upto_region 7 with (first
    | (with_reducible refine wpList_store_blk (ty := 42) (o := 25) _ x12.vals (by with_unfolding_all rfl) (by with_unfolding_all rfl) (H12.out.at 1 rfl) (by with_unfolding_all exact Nat.le_of_ble_eq_true rfl) (by with_unfolding_all exact info42) (Pt.one _) (fun W13 hBW13 hoW13 => ?_)))
  have H13 : Hid (St B w0 W13 (rd b R12 g12 :: bk P 44 (bodyOf kind (Fl.of n3) x6 n8 x10 x12).vals :: bk w.heap.size 44 Bp.zero.vals :: A)) := Lib.hid ((H12.out.pull 1 rfl).sets (L' := (bodyOf kind (Fl.of n3) x6 n8 x10 x12).vals) hBW13 hoW13).swap
  clear hBW13 hoW13 H12
  go_wp2_with fail
  refine (num_e H13.out 2 (by decide) (by decide)).mono ?_
  rintro e w14 ⟨n14, R14, e14, l14, rfl, g14, h14⟩
  have E14 := Lib.hid e14
  have H14 := Lib.hid h14
  clear e14 h14 H13
  go_wp2_with fail
  refine (num_e H14.out 2 (by decide) (by decide)).mono ?_
  rintro e w15 ⟨n15, R15, e15, l15, rfl, g15, h15⟩
  have E15 := Lib.hid e15
  have H15 := Lib.hid h15
  clear e15 h15 H14
  go_wp2_with fail
  refine (num_e H15.out 2 (by decide) (by decide)).mono ?_
  rintro e w16 ⟨n16, R16, e16, l16, rfl, g16, h16⟩
  have E16 := Lib.hid e16
  have H16 := Lib.hid h16
  clear e16 h16 H15
  go_wp2_with fail
  refine (num_e H16.out 2 (by decide) (by decide)).mono ?_
  rintro e w17 ⟨n17, R17, e17, l17, rfl, g17, h17⟩
  have E17 := Lib.hid e17
  have H17 := Lib.hid h17
  clear e17 h17 H16
  have c27 : w17.cell? ⟨P, 27, none⟩ = some (.int .i64 0) := (H17.out.pull 1 rfl).cell 27
  have z27 := (H17.out.pull 1 rfl).frozen 27
  have c28 : w17.cell? ⟨P, 28, none⟩ = some (.int .i64 0) := (H17.out.pull 1 rfl).cell 28
  have z28 := (H17.out.pull 1 rfl).frozen 28
  have c29 : w17.cell? ⟨P, 29, none⟩ = some (.int .i64 0) := (H17.out.pull 1 rfl).cell 29
  have z29 := (H17.out.pull 1 rfl).frozen 29
  have c30 : w17.cell? ⟨P, 30, none⟩ = some (.int .i64 0) := (H17.out.pull 1 rfl).cell 30
  have z30 := (H17.out.pull 1 rfl).frozen 30
  go_upto_region 8 with (fail)
  have h18 := (((((H17.out.pull 1 rfl).set 27 (.int .i64 (n14 : Int)) (by rw [Bp.len]; decide)).set 28 (.int .i64 (n15 : Int)) (by simp [Bp.len])).set 29 (.int .i64 (n16 : Int)) (by simp [Bp.len])).set 30 (.int .i64 (n17 : Int)) (by simp [Bp.len])).swap
  obtain ⟨X, hX⟩ : ∃ X : Bp, X = ⟨kind, Fl.of n3, x6, n8, x10, x12, n14, n15, n16, n17⟩ := ⟨_, rfl⟩
  have H18 : Hid (St B w0 _ (rd b R17 g17 :: bk P 44 X.vals :: bk w.heap.size 44 Bp.zero.vals :: A)) := Lib.hid (by rw [hX]; exact h18)
  have HX := Lib.hid hX
  clear h18 c27 z27 c28 z28 c29 z29 c30 z30 H17 hX
  generalize World.setCell _ _ _ = w18 at *
  have R18' := Lib.hid (Blk.box (H18.out.at 1 rfl)).range
  have B18' := Lib.hid (H18.out.at 2 rfl)
  go_wp2_with (first
    | (with_reducible refine wpList_load_rng (ty := 44) X.vals (by with_unfolding_all rfl) R18'.out Tryd.underlying44 (by with_unfolding_all rfl) (by with_unfolding_all exact info44) ?_)
    | (with_reducible refine wpList_store_blk (ty := 44) (o := 0) _ X.vals (by with_unfolding_all rfl) (by with_unfolding_all rfl) B18'.out (by with_unfolding_all exact Nat.le_refl _) (by with_unfolding_all exact info44) (Bp.one _) (fun W19 hBW19 hoW19 => ?_)))
  have hE : readBodyM R kind = (X, R17) := by
    rw [HX.out]
    unfold readBodyM
    simp only [E3.out, E6.out, E8.out, E10.out, E12.out, E14.out, E15.out, E16.out, E17.out]
  rw [hE]
  have h19 := (H18.out.pull 2 rfl).sets (L' := X.vals) hBW19 hoW19
  refine ret_cell (cs := X.vals) Tryd.results41 (by rfl) (Blk.box h19.head).range Tryd.underlying44 rfl info44 rfl ⟨rfl, g17, (h19.tail.swap).tail⟩
end
end Go.Proofs.YtidcjbanhdpkkaaDoor
namespace Go.Proofs.YtidcjbanhdpkkaaDoor
open Go.RowKit
set_option maxRecDepth 100000 in
set_option maxHeartbeats 1000000 in
theorem headF_any (kind : Int) (hk : kind = 1 ∨ kind = 2 ∨ kind = 3) (w : World) :
    Calls Tryd.prog 32 #[.int .i64 kind] w fun e w' => e = .returned (.string ⟨(headB kind).toArray⟩) ∧ w = w' := by
  rcases hk with rfl | rfl | rfl
  · have hix : ∀ W, (Instr.index 124 (.agg #[.string ⟨#[]⟩, .string ⟨#[0, 0, 0, 0]⟩, .string ⟨#[0, 0, 0, 128]⟩, .string ⟨#[0, 0, 2, 2]⟩]) (.int .i64 1)).run Tryd.prog W = .ok (.string ⟨#[0, 0, 0, 0]⟩) W := fun W => by kernel_rfl
    go_enter Tryd.func32, Tryd.ntmps32
    go_wp2_with fail
    go_ret
    exact ⟨rfl, rfl⟩
  · have hix : ∀ W, (Instr.index 124 (.agg #[.string ⟨#[]⟩, .string ⟨#[0, 0, 0, 0]⟩, .string ⟨#[0, 0, 0, 128]⟩, .string ⟨#[0, 0, 2, 2]⟩]) (.int .i64 2)).run Tryd.prog W = .ok (.string ⟨#[0, 0, 0, 128]⟩) W := fun W => by kernel_rfl
    go_enter Tryd.func32, Tryd.ntmps32
    go_wp2_with fail
    go_ret
    exact ⟨rfl, rfl⟩
  · have hix : ∀ W, (Instr.index 124 (.agg #[.string ⟨#[]⟩, .string ⟨#[0, 0, 0, 0]⟩, .string ⟨#[0, 0, 0, 128]⟩, .string ⟨#[0, 0, 2, 2]⟩]) (.int .i64 3)).run Tryd.prog W = .ok (.string ⟨#[0, 0, 2, 2]⟩) W := fun W => by kernel_rfl
    go_enter Tryd.func32, Tryd.ntmps32
    go_wp2_with fail
    go_ret
    exact ⟨rfl, rfl⟩
set_option maxRecDepth 100000 in
set_option maxHeartbeats 4000000 in
theorem bodyF_ok (b : Bp) (hb : b.Rest) (hf : b.fl.okB = true) (w : World) :
    Calls Tryd.prog 33 #[.agg b.vals.toArray] w fun e w' => e = .returned (.string ⟨b.body.toArray⟩) ∧ Below w.heap.size w w' := by
  have H0 := Lib.hid ((St.init w).alloc b.vals 44)
  have P1 := Lib.hid (pack_ok b.root hb.root)
  have P2 := Lib.hid (pack_ok b.sender hb.sender)
  have P3 := Lib.hid (packPort_ok b.port hb.port)
  have FB := Lib.hid (fun W => byteF_any b.fl hf W)
  have hfb := Fl.byte_lt b.fl hf
  obtain ⟨a4, a5, a6, a7, a8, a9, a10, a11, a12, a13⟩ := (⟨hb.cost0, hb.cost1, hb.age0, hb.age1, hb.max0, hb.max1, hb.hello0, hb.hello1, hb.wait0, hb.wait1⟩ : _ ∧ _ ∧ _ ∧ _ ∧ _ ∧ _ ∧ _ ∧ _ ∧ _ ∧ _)
  have M1 : Hid (∀ W, Calls Tryd.prog 45 #[.int .i64 (b.fl.byte : Int), .int .i64 1] W fun e w' => e = .returned (.string ⟨(beBytes b.fl.byte 1).toArray⟩) ∧ Below W.heap.size W w') := Lib.hid (fun W => must_ok b.fl.byte 1 (by decide) (by decide) (by omega) W)
  have M2 : Hid (∀ W, Calls Tryd.prog 45 #[.int .i64 b.cost, .int .i64 4] W fun e w' => e = .returned (.string ⟨(beBytes b.cost.toNat 4).toArray⟩) ∧ Below W.heap.size W w') := Lib.hid (fun W => by
    have := must_ok b.cost.toNat 4 (by decide) (by decide) (by omega) W
    rwa [Int.toNat_of_nonneg a4] at this)
  have MT : ∀ x : Int, 0 ≤ x → x ≤ 65535 → Hid (∀ W, Calls Tryd.prog 45 #[.int .i64 x, .int .i64 2] W fun e w' => e = .returned (.string ⟨(beBytes x.toNat 2).toArray⟩) ∧ Below W.heap.size W w') := fun x h0 h1 => Lib.hid (fun W => by
    have := must_ok x.toNat 2 (by decide) (by decide) (by omega) W
    rwa [Int.toNat_of_nonneg h0] at this)
  have M3 := MT b.age a6 a7
  have M4 := MT b.max a8 a9
  have M5 := MT b.hello a10 a11
  have M6 := MT b.wait a12 a13
  have LR : b.root.bytes.length ≤ 8 := Nat.le_of_eq (Br.bytes_len _)
  have LS : b.sender.bytes.length ≤ 8 := Nat.le_of_eq (Br.bytes_len _)
  have LP : b.port.bytes.length ≤ 2 := Nat.le_of_eq (Pt.bytes_len _)
  have L1 : (beBytes b.fl.byte 1).length ≤ 1 := Nat.le_of_eq (beBytes_len _ _)
  have L2 : (beBytes b.cost.toNat 4).length ≤ 4 := Nat.le_of_eq (beBytes_len _ _)
  have L3 : (beBytes b.age.toNat 2).length ≤ 2 := Nat.le_of_eq (beBytes_len _ _)
  have L4 : (beBytes b.max.toNat 2).length ≤ 2 := Nat.le_of_eq (beBytes_len _ _)
  have L5 : (beBytes b.hello.toNat 2).length ≤ 2 := Nat.le_of_eq (beBytes_len _ _)
  have L6 : (beBytes b.wait.toNat 2).length ≤ 2 := Nat.le_of_eq (beBytes_len _ _)
  have hBody : b.body = beBytes b.fl.byte 1 ++ b.root.bytes ++ beBytes b.cost.toNat 4 ++ b.sender.bytes ++ b.port.bytes ++ beBytes b.age.toNat 2 ++ beBytes b.max.toNat 2 ++ beBytes b.hello.toNat 2 ++ beBytes b.wait.toNat 2 := rfl
  have HBody := Lib.hid hBody
  clear MT hBody a4 a5 a6 a7 a8 a9 a10 a11 a12 a13 hfb hb
  generalize beBytes b.fl.byte 1 = B1 at *
  generalize beBytes b.cost.toNat 4 = B2 at *
  generalize beBytes b.age.toNat 2 = B3 at *
  generalize beBytes b.max.toNat 2 = B4 at *
  generalize beBytes b.hello.toNat 2 = B5 at *
  generalize beBytes b.wait.toNat 2 = B6 at *
  generalize b.root.bytes = BR at *
  generalize b.sender.bytes = BS at *
  generalize b.port.bytes = BP at *
  go_enter Tryd.func33, Tryd.ntmps33
  go_upto_region 1 with (fail)
  generalize World.alloc _ _ = W0 at *
  have R0 := Lib.hid (bp_in (Blk.box (H0.out.at 0 rfl))).root
  go_upto_region 2 with (first
    | (with_reducible refine wpList_load_rng (ty := 40) b.root.vals (by with_unfolding_all rfl) R0.out Tryd.underlying40 (by with_unfolding_all rfl) (by with_unfolding_all exact info40) ?_)
    | ((with_reducible refine (P1.out _).mono ?_)
       rintro e w1 ⟨rfl, hb1⟩
       have H1 := Lib.hid (H0.out.ext hb1)
       clear hb1))
  have R1 := Lib.hid (bp_in (Blk.box (H1.out.at 0 rfl))).sender
  go_upto_region 3 with (first
    | (with_reducible refine wpList_load_rng (ty := 40) b.sender.vals (by with_unfolding_all rfl) R1.out Tryd.underlying40 (by with_unfolding_all rfl) (by with_unfolding_all exact info40) ?_)
    | ((with_reducible refine (P2.out _).mono ?_)
       rintro e w2 ⟨rfl, hb2⟩
       have H2 := Lib.hid (H1.out.ext hb2)
       clear hb2))
  have R2 := Lib.hid (bp_in (Blk.box (H2.out.at 0 rfl))).port
  go_upto_region 4 with (first
    | (with_reducible refine wpList_load_rng (ty := 42) b.port.vals (by with_unfolding_all rfl) R2.out Tryd.underlying42 (by with_unfolding_all rfl) (by with_unfolding_all exact info42) ?_)
    | ((with_reducible refine (P3.out _).mono ?_)
       rintro e w3 ⟨rfl, hb3⟩
       have H3 := Lib.hid (H2.out.ext hb3)
       clear hb3))
  have I3 := bp_in (Blk.box (H3.out.at 0 rfl))
  have l3 : w.heap.size < w3.heap.size := (H3.out.at 0 rfl).lt
  have c16 := I3.cost
  have c27 := I3.age
  have c28 := I3.max
  have c29 := I3.hello
  have c30 := I3.wait
  have BX := Blk.box (H3.out.at 0 rfl)
  have f1 : w3.cell? ⟨w.heap.size, 1, none⟩ = some (.bool b.fl.change) := BX.cell 1
  have f2 : w3.cell? ⟨w.heap.size, 2, none⟩ = some (.bool b.fl.proposal) := BX.cell 2
  have f3 : w3.cell? ⟨w.heap.size, 3, none⟩ = some (.int .i64 b.fl.role) := BX.cell 3
  have f4 : w3.cell? ⟨w.heap.size, 4, none⟩ = some (.bool b.fl.learn) := BX.cell 4
  have f5 : w3.cell? ⟨w.heap.size, 5, none⟩ = some (.bool b.fl.pass) := BX.cell 5
  have f6 : w3.cell? ⟨w.heap.size, 6, none⟩ = some (.bool b.fl.agree) := BX.cell 6
  have f7 : w3.cell? ⟨w.heap.size, 7, none⟩ = some (.bool b.fl.ack) := BX.cell 7
  have FB' : Hid (∀ W, Calls Tryd.prog 31 #[.agg #[.bool b.fl.change, .bool b.fl.proposal, .int .i64 b.fl.role, .bool b.fl.learn, .bool b.fl.pass, .bool b.fl.agree, .bool b.fl.ack]] W fun e w' => e = .returned (.int .i64 (b.fl.byte : Int)) ∧ Below W.heap.size W w') := Lib.hid (fun W => FB.out W)
  clear I3 BX FB
  refine wp_region_ext (by kernel_rfl) (by kernel_rfl) ?_
  repeat (go_big_quiet_step (first
    | (with_reducible exact Calls.ext _ (FB'.out _))
    | (with_reducible exact Calls.ext _ (M1.out _))
    | (with_reducible exact Calls.ext _ (M2.out _))
    | (with_reducible exact Calls.ext _ (M3.out _))
    | (with_reducible exact Calls.ext _ (M4.out _))
    | (with_reducible exact Calls.ext _ (M5.out _))
    | (with_reducible exact Calls.ext _ (M6.out _))))
  refine wpQuiet_nil ?_
  rintro w4 ⟨⟨_, hb4⟩, rfl⟩
  go_wp2_with fail
  go_ret
  exact ⟨by rw [HBody.out]; simp [List.append_assoc], (H3.out.ext hb4).below⟩
end Go.Proofs.YtidcjbanhdpkkaaDoor
namespace Go.Proofs.YtidcjbanhdpkkaaDoor
open Go.RowKit
theorem bpWrite_no (b : Bp) (hb : b.okB = false) (w : World) :
    Calls Tryd.prog 15 #[.agg b.vals.toArray] w fun e w' => e = .returned (.tuple #[.string ⟨#[]⟩, .iface 33 (.int .i64 1)]) ∧ Below w.heap.size w w' := by
  have HK := Lib.hid hb
  clear hb
  have HB := Lib.hid (Box.new w b.vals 44)
  have hb0 : Below w.heap.size w (w.alloc (.cells b.vals.toArray 44)) := (Below.refl _ _).alloc (Nat.le_refl _) _
  go_enter Tryd.func15, Tryd.ntmps15
  go_upto_region 1 with (fail)
  generalize World.alloc _ _ = W0 at *
  go_wp2_with (first
    | (with_reducible refine wpList_load_rng (ty := 44) b.vals (by with_unfolding_all rfl) HB.out.range Tryd.underlying44 (by with_unfolding_all rfl) (by with_unfolding_all exact info44) ?_)
    | ((with_reducible refine (bpRight_any b W0).mono ?_)
       rintro e w1 ⟨rfl, hb1⟩
       rw [HK.out]))
  go_ret2
  exact ⟨rfl, hb0.trans (hb1.mono hb0.size)⟩
set_option maxRecDepth 100000 in
set_option maxHeartbeats 2000000 in
theorem bpWrite_ok (b : Bp) (hb : b.okB = true) (w : World) :
    Calls Tryd.prog 15 #[.agg b.vals.toArray] w fun e w' => e = .returned (.tuple #[.string ⟨b.bytes.toArray⟩, .nilIface]) ∧ Below w.heap.size w w' := by
  have H0 := Lib.hid ((St.init w).alloc b.vals 44)
  have HK := Lib.hid hb
  have hcase : b.kind = 2 ∨ ((b.kind = 1 ∨ b.kind = 3) ∧ b.fl.okB = true ∧ b.Rest) := by
    unfold Bp.okB at hb
    split at hb
    · rename_i h; exact .inl h
    · split at hb
      · rename_i h
        simp only [Bool.and_eq_true, decide_eq_true_eq] at hb
        exact .inr ⟨.inl h, by rw [hb.1]; exact Fl.two_ok _, Bp.rest_iff.1 hb.2⟩
      · split at hb
        · rename_i h
          simp only [Bool.and_eq_true] at hb
          exact .inr ⟨.inr h, hb.1, Bp.rest_iff.1 hb.2⟩
        · cases hb
  clear hb
  rcases hcase with h2 | ⟨hk, hf, hr⟩
  · have e2 : (b.kind == 2) = true := by simp [h2]
    have HH := Lib.hid (headF_any b.kind (.inr (.inl h2)))
    have HB : Hid (b.bytes = headB b.kind) := Lib.hid (by unfold Bp.bytes; rw [if_pos h2, h2])
    clear h2
    go_enter Tryd.func15, Tryd.ntmps15
    go_upto_region 1 with (fail)
    generalize World.alloc _ _ = W0 at *
    go_wp2_with (first
      | (with_reducible refine wpList_load_rng (ty := 44) b.vals (by with_unfolding_all rfl) (Blk.box (H0.out.at 0 rfl)).range Tryd.underlying44 (by with_unfolding_all rfl) (by with_unfolding_all exact info44) ?_)
      | ((with_reducible refine (bpRight_any b W0).mono ?_)
         rintro e w1 ⟨rfl, hb1⟩
         rw [HK.out]
         have H1 := Lib.hid (H0.out.ext hb1)
         have c1 := (bp_in (Blk.box (H1.out.at 0 rfl))).kind
         clear hb1)
      | ((with_reducible refine (HH.out _).mono ?_)
         rintro e w2 ⟨rfl, rfl⟩
         skip))
    go_ret2
    exact ⟨by rw [HB.out]; rfl, H1.out.below⟩
  · have HF := Lib.hid (bodyF_ok b hr hf)
    have LB : b.body.length ≤ 31 := Nat.le_of_eq (Bp.body_len b)
    have LH : (headB b.kind).length ≤ 4 := Nat.le_of_eq (headB_len _)
    have HH := Lib.hid (headF_any b.kind (by rcases hk with h | h <;> simp [h]))
    have e2 : (b.kind == 2) = false := by rcases hk with h | h <;> simp [h]
    rcases hk with hk | hk
    · have e1 : (b.kind == 1) = true := by simp [hk]
      have HB : Hid (b.bytes = headB b.kind ++ b.body) := Lib.hid (by unfold Bp.bytes; rw [if_neg (by omega), if_pos hk, hk])
      clear hk hf hr
      generalize b.body = BB at *
      generalize headB b.kind = HD at *
      go_enter Tryd.func15, Tryd.ntmps15
      go_upto_region 1 with (fail)
      generalize World.alloc _ _ = W0 at *
      go_upto_region 7 with (first
        | (with_reducible refine wpList_load_rng (ty := 44) b.vals (by with_unfolding_all rfl) (Blk.box (H0.out.at 0 rfl)).range Tryd.underlying44 (by with_unfolding_all rfl) (by with_unfolding_all exact info44) ?_)
        | ((with_reducible refine (bpRight_any b W0).mono ?_)
           rintro e w1 ⟨rfl, hb1⟩
           rw [HK.out]
           have H1 := Lib.hid (H0.out.ext hb1)
           have c1 := (bp_in (Blk.box (H1.out.at 0 rfl))).kind
           clear hb1))
      have l1 : w.heap.size < w1.heap.size := (H1.out.at 0 rfl).lt
      have R1 := Lib.hid (Blk.box (H1.out.at 0 rfl)).range
      refine wp_region_ext (by kernel_rfl) (by kernel_rfl) ?_
      repeat (go_big_quiet_step (first | (with_reducible exact Calls.ext_same _ (HH.out _))))
      go_big_quiet_want
      with_reducible refine quiet_load_rng (b := ?b91) (off := ?o91) (ds := ?ds91) b.vals ?hx91 ?hr91 ?hu91 ?hd91 ?hi91 ?hk91
      case hx91 => rfl
      case hr91 => rintro _ ⟨y, rfl⟩; exact rangeAt_below R1.out y.below l1
      case hu91 => exact Tryd.underlying44
      case hd91 => rfl
      case hi91 => exact info44
      go_simp
      go_big_quiet_on
      repeat (go_big_quiet_step (first | (with_reducible exact Calls.ext_same _ (HH.out _)) | (with_reducible exact Calls.ext _ (HF.out _))))
      refine wpQuiet_nil ?_
      rintro w4 ⟨⟨_, hb4⟩, rfl⟩
      go_wp2_with fail
      go_ret2
      exact ⟨by rw [HB.out]; rfl, (H1.out.ext hb4).below⟩
    · have e1 : (b.kind == 1) = false := by simp [hk]
      have HB : Hid (b.bytes = headB b.kind ++ b.body ++ [0]) := Lib.hid (by unfold Bp.bytes; rw [if_neg (by omega), if_neg (by omega), hk])
      clear hk hf hr
      generalize b.body = BB at *
      generalize headB b.kind = HD at *
      go_enter Tryd.func15, Tryd.ntmps15
      go_upto_region 1 with (fail)
      generalize World.alloc _ _ = W0 at *
      go_upto_region 8 with (first
        | (with_reducible refine wpList_load_rng (ty := 44) b.vals (by with_unfolding_all rfl) (Blk.box (H0.out.at 0 rfl)).range Tryd.underlying44 (by with_unfolding_all rfl) (by with_unfolding_all exact info44) ?_)
        | ((with_reducible refine (bpRight_any b W0).mono ?_)
           rintro e w1 ⟨rfl, hb1⟩
           rw [HK.out]
           have H1 := Lib.hid (H0.out.ext hb1)
           have c1 := (bp_in (Blk.box (H1.out.at 0 rfl))).kind
           clear hb1))
      have l1 : w.heap.size < w1.heap.size := (H1.out.at 0 rfl).lt
      have R1 := Lib.hid (Blk.box (H1.out.at 0 rfl)).range
      refine wp_region_ext (by kernel_rfl) (by kernel_rfl) ?_
      repeat (go_big_quiet_step (first | (with_reducible exact Calls.ext_same _ (HH.out _))))
      go_big_quiet_want
      with_reducible refine quiet_load_rng (b := ?b94) (off := ?o94) (ds := ?ds94) b.vals ?hx94 ?hr94 ?hu94 ?hd94 ?hi94 ?hk94
      case hx94 => rfl
      case hr94 => rintro _ ⟨y, rfl⟩; exact rangeAt_below R1.out y.below l1
      case hu94 => exact Tryd.underlying44
      case hd94 => rfl
      case hi94 => exact info44
      go_simp
      go_big_quiet_on
      repeat (go_big_quiet_step (first | (with_reducible exact Calls.ext_same _ (HH.out _)) | (with_reducible exact Calls.ext _ (HF.out _))))
      refine wpQuiet_nil ?_
      rintro w4 ⟨⟨_, hb4⟩, rfl⟩
      go_wp2_with fail
      go_ret2
      exact ⟨by rw [HB.out]; simp, (H1.out.ext hb4).below⟩
end Go.Proofs.YtidcjbanhdpkkaaDoor
namespace Go.Proofs.YtidcjbanhdpkkaaDoor
open Go.RowKit
/-- Which kind has been seen, once the kinds below k have been tried. -/
def kindTo (h : List UInt8 × RS) (k : Nat) : Int := if kindM h < k then kindM h else 0
def Bp.onlyK (k : Int) : Bp := ⟨k, Fl.zero, Br.zero, 0, Br.zero, Pt.zero, 0, 0, 0, 0⟩
theorem kindM_le (h : List UInt8 × RS) : 0 ≤ kindM h ∧ kindM h ≤ 3 := by
  unfold kindM
  split
  · split
    · decide
    · split
      · decide
      · split <;> decide
  · decide
theorem kindTo_one (h : List UInt8 × RS) : kindTo h 1 = 0 := by
  have := kindM_le h
  unfold kindTo
  split <;> omega
theorem kindTo_four (h : List UInt8 × RS) : kindTo h 4 = kindM h := by
  have := kindM_le h
  unfold kindTo
  rw [if_pos (by omega)]
theorem kindTo_no {h : List UInt8 × RS} {k : Nat} (hk : kindM h ≠ k) : kindTo h (k + 1) = kindTo h k := by
  unfold kindTo
  split <;> split <;> omega
theorem kindTo_yes {h : List UInt8 × RS} {k : Nat} (hk : kindM h = k) : kindTo h (k + 1) = k := by
  unfold kindTo
  rw [if_pos (by omega), hk]
theorem kindM_not {h : List UInt8 × RS} {k : Nat} (h1 : 1 ≤ k) (h3 : k ≤ 3) (hn : h.1 ≠ headB k) : kindM h ≠ k := by
  unfold kindM
  intro e
  have hk : k = 1 ∨ k = 2 ∨ k = 3 := by omega
  split at e
  · split at e
    · rename_i hc; apply hn; rw [← e]; exact hc
    · split at e
      · rename_i hc; apply hn; rw [← e]; exact hc
      · split at e
        · rename_i hc; apply hn; rw [← e]; exact hc
        · omega
  · omega
def bpGot (s : List UInt8) (g : Nat) : Value := if (readBpM s).2.err = none then .tuple #[.agg (readBpM s).1.vals.toArray, .nilIface] else .tuple #[.agg Bp.zero.vals.toArray, errV (readBpM s).2 g]
theorem bp_zero : Tryd.prog.built 44 [] = some Bp.zero.vals.toArray := by kernel_rfl
theorem readBody_e {B : Nat} {w0 w : World} {A : List It} {b g : Nat} {R : RS} (H : St B w0 w (rd b R g :: A)) (kind : Int) :
    Calls Tryd.prog 41 #[.pointer (some ⟨b, 0, none⟩), .int .i64 kind] w fun e w' => ∃ x R', readBodyM R kind = (x, R') ∧ e = .returned (.agg x.vals.toArray) ∧ RdTo B w0 b R' A w' :=
  (readBody_st H kind).mono fun _ _ h => ⟨_, _, rfl, h.1, h.2⟩
set_option maxRecDepth 100000 in
set_option maxHeartbeats 4000000 in
theorem bpRead_any (s : List UInt8) (hs : s.length ≤ 4611686018427387904) (w : World) :
    Calls Tryd.prog 17 #[.string ⟨s.toArray⟩] w fun e w' => ∃ b g, e = .returned (bpGot s g) ∧ St w.heap.size w w' (rd b (readBpM s).2 g :: []) := by
  have H1 := Lib.hid ((St.init w).alloc zBp 44)
  go_enter Tryd.func17, Tryd.ntmps17
  go_upto_region 1 with (fail)
  unfold zBp at H1
  generalize World.alloc _ _ = w1 at *
  have H1 : Hid (St w.heap.size w w1 (bk w.heap.size 44 Bp.zero.vals :: [])) := H1
  go_wp2_with fail
  refine (new_st H1.out s 0 (by simpa using hs)).mono ?_
  rintro e w2 ⟨rfl, h2⟩
  have H2 := Lib.hid h2
  clear h2 H1
  generalize hb : w1.heap.size = b at *
  clear hb
  go_wp2_with fail
  refine (bytes_e H2.out 4 (by decide)).mono ?_
  rintro e w3 ⟨n3, R3, e3, l3, rfl, g3, h3⟩
  have E3 := Lib.hid e3
  have H3 := Lib.hid h3
  clear e3 h3 H2
  go_upto_region 4 with (fail)
  have H3 := Lib.hid (H3.out.alloc zBp 44).swap
  unfold zBp at H3
  generalize World.alloc _ _ = w0 at *
  generalize hP : w3.heap.size = P at *
  clear hP
  obtain ⟨w3, hw3⟩ : ∃ W, w0 = W := ⟨_, rfl⟩
  subst hw3
  have H3 : Hid (St w.heap.size w w0 (rd b R3 g3 :: bk P 44 (Bp.onlyK 0).vals :: bk w.heap.size 44 Bp.zero.vals :: [])) := H3
  go_upto_region 5 with (fail)
  go_loopw [7] (fun i wr => ∃ k : Nat, 1 ≤ k ∧ k ≤ 4 ∧ i = .int .i64 k ∧ Hid (St w.heap.size w wr (rd b R3 g3 :: bk P 44 (Bp.onlyK (kindTo (n3, R3) k)).vals :: bk w.heap.size 44 Bp.zero.vals :: []))) (fun i _ => 4 - (intOf i).toNat)
  case atStart => exact ⟨1, by omega, by omega, rfl, by rw [kindTo_one]; exact H3⟩
  case round =>
    obtain ⟨k, hk1, hk4, rfl, HS⟩ := hrel
    by_cases hlt : k < 4
    · have HH := Lib.hid (headF_any (k : Int) (by omega))
      have kI : (k : Int) ≤ 3 := by omega
      cases he : R3.err with
      | some x =>
        have He := Lib.hid (errV_some he g3)
        have hkt : kindTo (n3, R3) (k + 1) = kindTo (n3, R3) k := kindTo_no (by rw [kindM_err (by rw [he]; simp)]; omega)
        have Hkt := Lib.hid hkt
        clear he hkt
        go_wp2_with (first
          | ((with_reducible refine (err_st HS.out).mono ?_)
             rintro e w6 ⟨rfl, rfl⟩
             rw [He.out]))
        go_roundw
        case rel => exact ⟨k + 1, by omega, by omega, by go_num, by rw [Hkt.out]; exact HS⟩
        case measure => simp [intOf]; omega
      | none =>
        have He := Lib.hid (errV_none he g3)
        by_cases hg : n3 = headB k
        · have hkt : kindTo (n3, R3) (k + 1) = k := kindTo_yes (kindM_head (h := (n3, R3)) he k (by omega) hg)
          have Hkt := Lib.hid hkt
          have hbe : (n3 == headB (k : Int)) = true := by simp [hg]
          have c5 := (HS.out.pull 1 rfl).cell 0
          rw [show (Bp.onlyK (kindTo (n3, R3) k)).vals.toArray[0]? = some (.int .i64 (kindTo (n3, R3) k)) from rfl] at c5
          have z5 := (HS.out.pull 1 rfl).frozen 0
          generalize headB (k : Int) = hd at *
          clear he hkt hg
          generalize kindTo (n3, R3) k = kk at *
          go_wp2_with (first
            | ((with_reducible refine (err_st HS.out).mono ?_)
               rintro e w6 ⟨rfl, rfl⟩
               rw [He.out])
            | ((with_reducible refine (HH.out _).mono ?_)
               rintro e w7 ⟨rfl, rfl⟩
               skip))
          have h10 := ((HS.out.pull 1 rfl).set 0 (.int .i64 (k : Int)) (by rw [Bp.len]; omega)).swap
          have H10 : Hid (St w.heap.size w _ (rd b R3 g3 :: bk P 44 (Bp.onlyK k).vals :: bk w.heap.size 44 Bp.zero.vals :: [])) := Lib.hid h10
          clear h10
          go_roundw
          case rel => exact ⟨k + 1, by omega, by omega, by go_num, by rw [Hkt.out]; exact H10⟩
          case measure => simp [intOf]; omega
        · have hkt : kindTo (n3, R3) (k + 1) = kindTo (n3, R3) k := kindTo_no (kindM_not (h := (n3, R3)) hk1 (by omega) hg)
          have Hkt := Lib.hid hkt
          have hbe : (n3 == headB (k : Int)) = false := by rw [beq_eq_false_iff_ne]; exact hg
          generalize headB (k : Int) = hd at *
          clear he hkt hg
          go_wp2_with (first
            | ((with_reducible refine (err_st HS.out).mono ?_)
               rintro e w6 ⟨rfl, rfl⟩
               rw [He.out])
            | ((with_reducible refine (HH.out _).mono ?_)
               rintro e w7 ⟨rfl, rfl⟩
               skip))
          go_roundw
          case rel => exact ⟨k + 1, by omega, by omega, by go_num, by rw [Hkt.out]; exact HS⟩
          case measure => simp [intOf]; omega
    · have hk4' : k = 4 := by omega
      subst hk4'
      rw [kindTo_four] at HS
      clear hlt hk1 hk4 H3
      have hkl := kindM_le (n3, R3)
      generalize hK : kindM (n3, R3) = K at *
      have HK := Lib.hid hK
      clear hK
      have cK : wr.cell? ⟨P, 0, none⟩ = some (.int .i64 K) := (HS.out.pull 1 rfl).cell 0
      go_upto_block 2 with (fail)
      go_cut [] (fun wx => ∃ x R g, Hid (readBpM s = (x, R)) ∧ Hid (St w.heap.size w wx (rd b R g :: bk P 44 x.vals :: bk w.heap.size 44 Bp.zero.vals :: [])))
      case first =>
        have hcase : K = 0 ∨ K = 1 ∨ K = 2 ∨ K = 3 := by omega
        clear hkl
        rcases hcase with rfl | rfl | rfl | rfl
        · have hM : readBpM s = (Bp.zero, failM R3 3 0) := by
            unfold readBpM; simp only [E3.out, HK.out]; rfl
          have HM := Lib.hid hM
          clear hM
          go_wp2_with (first
            | ((with_reducible refine (fail_st HS.out 3 _).mono ?_)
               rintro e w6 ⟨rfl, g6, h6⟩
               have H6 := Lib.hid h6
               clear h6))
          go_meet
          exact ⟨_, _, g6, HM, H6⟩
        · go_wp2_with fail
          refine (readBody_e HS.out 1).mono ?_
          rintro e w6 ⟨x6, R6, e6, rfl, g6, h6⟩
          have E6 := Lib.hid e6
          have H6 := Lib.hid h6
          clear e6 h6 HS cK
          go_upto_region 12 with (first
            | (with_reducible refine wpList_store_blk (ty := 44) (o := 0) _ x6.vals (by with_unfolding_all rfl) (by with_unfolding_all rfl) (H6.out.at 1 rfl) (by with_unfolding_all exact Nat.le_refl _) (by with_unfolding_all exact info44) (Bp.one _) (fun W7 hBW7 hoW7 => ?_)))
          have H7 : Hid (St w.heap.size w W7 (rd b R6 g6 :: bk P 44 x6.vals :: bk w.heap.size 44 Bp.zero.vals :: [])) := Lib.hid ((H6.out.pull 1 rfl).sets (L' := x6.vals) hBW7 hoW7).swap
          clear hBW7 hoW7 H6
          have B7 := Blk.box (H7.out.at 1 rfl)
          have c1 : W7.cell? ⟨P, 1, none⟩ = some (.bool x6.fl.change) := B7.cell 1
          have c7 : W7.cell? ⟨P, 7, none⟩ = some (.bool x6.fl.ack) := B7.cell 7
          clear B7
          have T6 := Lib.hid (two_built x6.fl)
          go_wp2_with (first
            | (with_reducible refine wpList_buildA (t := 38) [(0, .bool x6.fl.change), (6, .bool x6.fl.ack)] x6.fl.two.vals (by with_unfolding_all rfl) T6.out ?_)
            | (with_reducible refine wpList_store_blk (ty := 38) (o := 1) _ x6.fl.two.vals (by with_unfolding_all rfl) (by with_unfolding_all rfl) (H7.out.at 1 rfl) (by with_unfolding_all exact Nat.le_of_ble_eq_true rfl) (by with_unfolding_all exact info38) (Fl.one _) (fun W8 hBW8 hoW8 => ?_)))
          have H8 : Hid (St w.heap.size w W8 (rd b R6 g6 :: bk P 44 (Bp.vals { x6 with fl := x6.fl.two }) :: bk w.heap.size 44 Bp.zero.vals :: [])) := Lib.hid ((H7.out.pull 1 rfl).sets (L' := Bp.vals { x6 with fl := x6.fl.two }) hBW8 hoW8).swap
          go_meet
          exact ⟨_, _, g6, Lib.hid (by unfold readBpM; simp only [E3.out, HK.out, E6.out]; rfl), H8⟩
        · have hM : readBpM s = (Bp.notice, R3) := by
            unfold readBpM; simp only [E3.out, HK.out]; rfl
          have HM := Lib.hid hM
          clear hM
          go_wp2_with fail
          go_meet
          exact ⟨_, _, g3, HM, HS⟩
        · go_wp2_with fail
          refine (readBody_e HS.out 3).mono ?_
          rintro e w6 ⟨x6, R6, e6, rfl, g6, h6⟩
          have E6 := Lib.hid e6
          have H6 := Lib.hid h6
          clear e6 h6 HS cK
          go_upto_region 15 with (first
            | (with_reducible refine wpList_store_blk (ty := 44) (o := 0) _ x6.vals (by with_unfolding_all rfl) (by with_unfolding_all rfl) (H6.out.at 1 rfl) (by with_unfolding_all exact Nat.le_refl _) (by with_unfolding_all exact info44) (Bp.one _) (fun W7 hBW7 hoW7 => ?_)))
          have H7 : Hid (St w.heap.size w W7 (rd b R6 g6 :: bk P 44 x6.vals :: bk w.heap.size 44 Bp.zero.vals :: [])) := Lib.hid ((H6.out.pull 1 rfl).sets (L' := x6.vals) hBW7 hoW7).swap
          clear hBW7 hoW7 H6
          go_wp2_with fail
          refine (at_st H7.out).mono ?_
          rintro e w8 ⟨rfl, h8⟩
          have H8 := Lib.hid h8
          clear h8 H7
          go_wp2_with fail
          refine (num_e H8.out 1 (by decide) (by decide)).mono ?_
          rintro e w9 ⟨n9, R9, e9, l9, rfl, g9, h9⟩
          have E9 := Lib.hid e9
          have H9 := Lib.hid h9
          clear e9 h9 H8
          by_cases h0 : n9 = 0
          · have hb0 : ((n9 : Int) != 0) = false := by rw [h0]; rfl
            have hM : readBpM s = (x6, R9) := by
              unfold readBpM; simp only [E3.out, HK.out, E6.out, E9.out, h0]; rfl
            have HM := Lib.hid hM
            clear hM h0
            go_wp2_with fail
            go_meet
            exact ⟨_, _, g9, HM, H9⟩
          · have hb0 : ((n9 : Int) != 0) = true := by rw [bne_iff_ne]; omega
            have hM : readBpM s = (x6, failM R9 3 (R6.place : Int)) := by
              unfold readBpM; simp only [E3.out, HK.out, E6.out, E9.out]
              rw [if_neg (by decide), if_pos trivial, if_pos h0]
            have HM := Lib.hid hM
            clear hM h0
            go_wp2_with (first
              | ((with_reducible refine (fail_st H9.out 3 _).mono ?_)
                 rintro e w10 ⟨rfl, g10, h10⟩
                 have H10 := Lib.hid h10
                 clear h10))
            go_meet
            exact ⟨_, _, g10, HM, H10⟩
      case rest =>
      obtain ⟨x, R, g, HM, H17⟩ := hcut
      clear HS cK
      generalize wc = w17 at *
      have B17 := Lib.hid (H17.out.at 2 rfl)
      have R17' := Lib.hid (Blk.box (H17.out.at 1 rfl)).range
      cases he : R.err with
      | some y =>
        have He := Lib.hid (errV_some he g)
        have hG : bpGot s g = .tuple #[.agg Bp.zero.vals.toArray, errV R g] := by
          unfold bpGot; rw [HM.out, if_neg (by simp [he])]
        have HG := Lib.hid hG
        clear he hG
        go_wp2_with (first
          | (with_reducible refine wpList_buildA (t := 44) [] Bp.zero.vals (by with_unfolding_all rfl) bp_zero ?_)
          | ((with_reducible refine (err_st H17.out).mono ?_)
             rintro e w18 ⟨rfl, rfl⟩
             rw [He.out])
          | (with_reducible refine wpList_store_blk (ty := 44) (o := 0) _ Bp.zero.vals (by with_unfolding_all rfl) (by with_unfolding_all rfl) B17.out (by with_unfolding_all exact Nat.le_refl _) (by with_unfolding_all exact info44) (Bp.one _) (fun W19 hBW19 hoW19 => ?_)))
        have h19 := (H17.out.pull 2 rfl).sets (L' := Bp.zero.vals) hBW19 hoW19
        refine ret_cell2 (cs := Bp.zero.vals) Tryd.results17 (by rfl) (by rfl) (Blk.box h19.head).range Tryd.underlying44 rfl info44 rfl ⟨b, g, ?_, ?_⟩
        · rw [HG.out, He.out]; rfl
        · rw [HM.out]; exact h19.tail.swap.tail
      | none =>
        have He := Lib.hid (errV_none he g)
        have hG : bpGot s g = .tuple #[.agg x.vals.toArray, .nilIface] := by
          unfold bpGot; rw [HM.out, if_pos he]
        have HG := Lib.hid hG
        clear he hG
        go_wp2_with (first
          | ((with_reducible refine (err_st H17.out).mono ?_)
             rintro e w18 ⟨rfl, rfl⟩
             rw [He.out])
          | (with_reducible refine wpList_load_rng (ty := 44) x.vals (by with_unfolding_all rfl) R17'.out Tryd.underlying44 (by with_unfolding_all rfl) (by with_unfolding_all exact info44) ?_)
          | (with_reducible refine wpList_store_blk (ty := 44) (o := 0) _ x.vals (by with_unfolding_all rfl) (by with_unfolding_all rfl) B17.out (by with_unfolding_all exact Nat.le_refl _) (by with_unfolding_all exact info44) (Bp.one _) (fun W19 hBW19 hoW19 => ?_)))
        have h19 := (H17.out.pull 2 rfl).sets (L' := x.vals) hBW19 hoW19
        refine ret_cell2 (cs := x.vals) Tryd.results17 (by rfl) (by rfl) (Blk.box h19.head).range Tryd.underlying44 rfl info44 rfl ⟨b, g, ?_, ?_⟩
        · rw [HG.out]; rfl
        · rw [HM.out]; exact h19.tail.swap.tail
end Go.Proofs.YtidcjbanhdpkkaaDoor
namespace Go.Proofs.YtidcjbanhdpkkaaDoor
open Go.RowKit
theorem bpRead_ok (b : Bp) (more : List UInt8) (hb : b.okB = true) (hm : more.length ≤ 1000000) (w : World) :
    Calls Tryd.prog 17 #[.string ⟨(b.bytes ++ more).toArray⟩] w fun e w' => e = .returned (.tuple #[.agg b.vals.toArray, .nilIface]) ∧ Below w.heap.size w w' := by
  have hl : b.bytes.length ≤ 36 := by
    unfold Bp.bytes
    split
    · rw [headB_len]; omega
    · split <;> simp only [List.length_append, headB_len, Bp.body_len, List.length_cons, List.length_nil] <;> omega
  have hl2 : (b.bytes ++ more).length ≤ 4611686018427387904 := by rw [List.length_append]; omega
  refine (bpRead_any _ hl2 w).mono ?_
  rintro e w1 ⟨g1, g, rfl, hS⟩
  obtain ⟨R, hR, he⟩ := readBp_bytes b more hb hl2
  exact ⟨by unfold bpGot; rw [hR, if_pos he], hS.below⟩
theorem bpRead_yes (s : List UInt8) (hs : s.length ≤ 4611686018427387904) (h : (readBpM s).2.err = none) (w : World) :
    Calls Tryd.prog 17 #[.string ⟨s.toArray⟩] w fun e w' => e = .returned (.tuple #[.agg (readBpM s).1.vals.toArray, .nilIface]) ∧ Below w.heap.size w w' := by
  refine (bpRead_any s hs w).mono ?_
  rintro e w1 ⟨b, g, rfl, hS⟩
  exact ⟨by unfold bpGot; rw [if_pos h], hS.below⟩
def fl0 : Fl := ⟨false, false, 2, false, true, false, false⟩
def bp0 : Bp := ⟨3, fl0, Br.zero, 0, Br.zero, ⟨128, 1⟩, 0, 5120, 0, 0⟩
theorem fl0_built : Tryd.prog.built 38 [(2, .int .i64 2), (4, .bool true)] = some fl0.vals.toArray := by kernel_rfl
theorem pt0_built : Tryd.prog.built 42 [(0, .int .i64 128), (1, .int .i64 1)] = some (Pt.vals ⟨128, 1⟩).toArray := by kernel_rfl
theorem bp0_built : Tryd.prog.built 44 [(0, .int .i64 3), (1, .agg fl0.vals.toArray), (5, .agg (Pt.vals ⟨128, 1⟩).toArray), (7, .int .i64 5120)] = some bp0.vals.toArray := by kernel_rfl
set_option maxRecDepth 100000 in
set_option maxHeartbeats 2000000 in
theorem bridged_any (w : World) : Calls Tryd.prog 14 #[] w fun e w' => e = .returned (.bool true) ∧ Below w.heap.size w w' := by
  have HW := Lib.hid (bpWrite_ok bp0 (by decide))
  have HR := Lib.hid (bpRead_ok bp0 [109, 111, 114, 101] (by decide) (by decide))
  have HB : Hid (∀ W, Calls Tryd.prog 31 #[.agg #[.bool false, .bool false, .int .i64 2, .bool false, .bool true, .bool false, .bool false]] W fun e w' => e = .returned (.int .i64 40) ∧ Below W.heap.size W w') := Lib.hid (fun W => byteF_any fl0 (by decide) W)
  have hl : bp0.bytes.length = 36 := by decide
  have EQ := bp_eq bp0 bp0
  rw [decide_eq_true rfl] at EQ
  have GQ := fun p q => bp_guard .eql bp0 bp0 p q
  have c0 : bp0.fl = fl0 := rfl
  have B0 := bp0_built
  go_enter Tryd.func14, Tryd.ntmps14
  generalize bp0.bytes = S at *
  go_upto_region 2 with (first
    | (with_reducible refine wpList_buildA (t := 38) [(2, .int .i64 2), (4, .bool true)] fl0.vals (by with_unfolding_all rfl) fl0_built ?_)
    | (with_reducible refine wpList_buildA (t := 42) [(0, .int .i64 128), (1, .int .i64 1)] (Pt.vals ⟨128, 1⟩) (by with_unfolding_all rfl) pt0_built ?_)
    | (with_reducible refine wpList_buildA (t := 44) [(0, .int .i64 3), (1, .agg fl0.vals.toArray), (5, .agg (Pt.vals ⟨128, 1⟩).toArray), (7, .int .i64 5120)] bp0.vals (by with_unfolding_all rfl) B0 ?_)
    | (with_reducible refine wpList_store_blk (ty := 44) (o := 0) _ bp0.vals (by with_unfolding_all rfl) (by with_unfolding_all rfl) (Blk.new w zBp 44) (by with_unfolding_all exact Nat.le_refl _) (by with_unfolding_all exact info44) (Bp.one _) (fun W1 hBW1 hoW1 => ?_)))
  have H1 : Hid (St w.heap.size w W1 [bk w.heap.size 44 bp0.vals]) := Lib.hid (((St.init w).alloc zBp 44).sets (L' := bp0.vals) hBW1 hoW1)
  clear hBW1 hoW1
  go_upto_region 3 with (first
    | (with_reducible refine wpList_load_rng (ty := 44) bp0.vals (by with_unfolding_all rfl) (Blk.box (H1.out.at 0 rfl)).range Tryd.underlying44 (by with_unfolding_all rfl) (by with_unfolding_all exact info44) ?_)
    | ((with_reducible refine (HW.out _).mono ?_)
       rintro e w2 ⟨rfl, hb2⟩
       have H2 := Lib.hid (H1.out.ext hb2)
       clear hb2))
  have hl4 : S.length ≤ 36 := by omega
  go_upto_region 4 with (first
    | ((with_reducible refine (HR.out _).mono ?_)
       rintro e w3 ⟨rfl, hb3⟩
       have H3 := Lib.hid (H2.out.ext hb3)
       clear hb3)
    | (with_reducible refine wpList_store_blk (ty := 44) (o := 0) _ bp0.vals (by with_unfolding_all rfl) (by with_unfolding_all rfl) (Blk.new w3 zBp 44) (by with_unfolding_all exact Nat.le_refl _) (by with_unfolding_all exact info44) (Bp.one _) (fun W4 hBW4 hoW4 => ?_)))
  have H4 : Hid (St w.heap.size w W4 [bk w3.heap.size 44 bp0.vals, bk w.heap.size 44 bp0.vals]) := Lib.hid ((H3.out.alloc zBp 44).sets (L' := bp0.vals) hBW4 hoW4)
  clear hBW4 hoW4 H1 H2 H3
  generalize w3.heap.size = P3 at *
  have BX := Blk.box (H4.out.at 1 rfl)
  have f1 : W4.cell? ⟨w.heap.size, 1, none⟩ = some (.bool false) := BX.cell 1
  have f2 : W4.cell? ⟨w.heap.size, 2, none⟩ = some (.bool false) := BX.cell 2
  have f3 : W4.cell? ⟨w.heap.size, 3, none⟩ = some (.int .i64 2) := BX.cell 3
  have f4 : W4.cell? ⟨w.heap.size, 4, none⟩ = some (.bool false) := BX.cell 4
  have f5 : W4.cell? ⟨w.heap.size, 5, none⟩ = some (.bool true) := BX.cell 5
  have f6 : W4.cell? ⟨w.heap.size, 6, none⟩ = some (.bool false) := BX.cell 6
  have f7 : W4.cell? ⟨w.heap.size, 7, none⟩ = some (.bool false) := BX.cell 7
  clear BX
  go_wp2_with (first
    | (with_reducible refine wpList_load_rngG (ty := 44) bp0.vals (by with_unfolding_all rfl) (by with_unfolding_all rfl) (Blk.box (H4.out.at 0 rfl)).range Tryd.underlying44 (by with_unfolding_all rfl) (by with_unfolding_all exact info44) ?_)
    | (with_reducible refine wpList_load_rngG (ty := 44) bp0.vals (by with_unfolding_all rfl) (by with_unfolding_all rfl) (Blk.box (H4.out.at 1 rfl)).range Tryd.underlying44 (by with_unfolding_all rfl) (by with_unfolding_all exact info44) ?_)
    | ((with_reducible refine (HB.out _).mono ?_)
       rintro e w5 ⟨rfl, hb5⟩
       have H5 := Lib.hid (H4.out.ext hb5)
       clear hb5))
  go_ret
  exact ⟨rfl, H5.out.below⟩
end Go.Proofs.YtidcjbanhdpkkaaDoor
namespace Go.Proofs.YtidcjbanhdpkkaaDoor
open Go.RowKit
theorem bpRead_not (s : List UInt8) (hs : s.length ≤ 4611686018427387904) (h : (readBpM s).2.err ≠ none) (w : World) :
    Calls Tryd.prog 17 #[.string ⟨s.toArray⟩] w fun e w' => ∃ g, e = .returned (.tuple #[.agg Bp.zero.vals.toArray, .iface 133 (.pointer (some ⟨g, 0, none⟩))]) ∧ Below w.heap.size w w' := by
  refine (bpRead_any s hs w).mono ?_
  rintro e w1 ⟨b, g, rfl, hS⟩
  refine ⟨g, ?_, hS.below⟩
  obtain ⟨x, hx⟩ := Option.ne_none_iff_exists'.1 h
  unfold bpGot
  rw [if_neg h, errV_some hx]
theorem bpRead_cut (b : Bp) (k : Nat) (hb : b.okB = true) (hk : k < b.bytes.length) (w : World) :
    Calls Tryd.prog 17 #[.string ⟨(b.bytes.take k).toArray⟩] w fun e w' => ∃ g, e = .returned (.tuple #[.agg Bp.zero.vals.toArray, .iface 133 (.pointer (some ⟨g, 0, none⟩))]) ∧ Below w.heap.size w w' ∧ w'.cell? ⟨g, 0, none⟩ = some (.int .i64 7) := by
  have hl : b.bytes.length ≤ 36 := by
    unfold Bp.bytes
    split
    · rw [headB_len]; omega
    · split <;> simp only [List.length_append, headB_len, Bp.body_len, List.length_cons, List.length_nil] <;> omega
  refine (bpRead_any _ (by rw [List.length_take]; omega) w).mono ?_
  rintro e w1 ⟨b1, g, rfl, hS⟩
  obtain ⟨p, hp⟩ := readBp_cut b hb k hk
  refine ⟨g, ?_, hS.below, (hS.rdp.err 7 p hp).2.1⟩
  unfold bpGot
  rw [if_neg (by rw [hp]; simp), errV_some hp]
set_option maxRecDepth 100000 in
theorem bp_types : Tryd.prog.cellTypes Tryd.prog.depth 44 = some [3, 4, 4, 3, 4, 4, 4, 4, 3, 3, 5, 5, 5, 5, 5, 5, 3, 3, 3, 5, 5, 5, 5, 5, 5, 3, 3, 3, 3, 3, 3] := by kernel_rfl
theorem bp_struct : ∃ fs, Tryd.prog.underlying 44 = some (.struct fs) := ⟨_, Tryd.underlying44⟩
set_option maxRecDepth 100000 in
set_option maxHeartbeats 1000000 in
theorem open_bp {H : Type} {enc : TypeId × Value → H} {w : World} {r : Reach} {base : Nat} {b0 : Nat} {sp : Nat → Bool} {hd : Bool} {v : Value} {d : DataW H} {ps : List MemPlace}
    (h : Value.okWide Tryd.prog w r base 44 v) (_ : DataW.Trod enc Tryd.prog w b0 sp hd 44 v d ps) : ∃ x : Bp, v = .agg x.vals.toArray := by
  obtain ⟨cs, rfl, hl, hc⟩ := flatV (.inl bp_struct) bp_types (by kernel_rfl) h
  match cs, hl with
  | [z0, z1, z2, z3, z4, z5, z6, z7, z8, z9, z10, z11, z12, z13, z14, z15, z16, z17, z18, z19, z20, z21, z22, z23, z24, z25, z26, z27, z28, z29, z30], _ =>
    obtain ⟨x0, e0, k0⟩ := hc 0 3 rfl
    obtain ⟨x1, e1, k1⟩ := hc 1 4 rfl
    obtain ⟨x2, e2, k2⟩ := hc 2 4 rfl
    obtain ⟨x3, e3, k3⟩ := hc 3 3 rfl
    obtain ⟨x4, e4, k4⟩ := hc 4 4 rfl
    obtain ⟨x5, e5, k5⟩ := hc 5 4 rfl
    obtain ⟨x6, e6, k6⟩ := hc 6 4 rfl
    obtain ⟨x7, e7, k7⟩ := hc 7 4 rfl
    obtain ⟨x8, e8, k8⟩ := hc 8 3 rfl
    obtain ⟨x9, e9, k9⟩ := hc 9 3 rfl
    obtain ⟨x10, e10, k10⟩ := hc 10 5 rfl
    obtain ⟨x11, e11, k11⟩ := hc 11 5 rfl
    obtain ⟨x12, e12, k12⟩ := hc 12 5 rfl
    obtain ⟨x13, e13, k13⟩ := hc 13 5 rfl
    obtain ⟨x14, e14, k14⟩ := hc 14 5 rfl
    obtain ⟨x15, e15, k15⟩ := hc 15 5 rfl
    obtain ⟨x16, e16, k16⟩ := hc 16 3 rfl
    obtain ⟨x17, e17, k17⟩ := hc 17 3 rfl
    obtain ⟨x18, e18, k18⟩ := hc 18 3 rfl
    obtain ⟨x19, e19, k19⟩ := hc 19 5 rfl
    obtain ⟨x20, e20, k20⟩ := hc 20 5 rfl
    obtain ⟨x21, e21, k21⟩ := hc 21 5 rfl
    obtain ⟨x22, e22, k22⟩ := hc 22 5 rfl
    obtain ⟨x23, e23, k23⟩ := hc 23 5 rfl
    obtain ⟨x24, e24, k24⟩ := hc 24 5 rfl
    obtain ⟨x25, e25, k25⟩ := hc 25 3 rfl
    obtain ⟨x26, e26, k26⟩ := hc 26 3 rfl
    obtain ⟨x27, e27, k27⟩ := hc 27 3 rfl
    obtain ⟨x28, e28, k28⟩ := hc 28 3 rfl
    obtain ⟨x29, e29, k29⟩ := hc 29 3 rfl
    obtain ⟨x30, e30, k30⟩ := hc 30 3 rfl
    obtain rfl : z0 = x0 := Option.some.inj e0
    obtain rfl : z1 = x1 := Option.some.inj e1
    obtain rfl : z2 = x2 := Option.some.inj e2
    obtain rfl : z3 = x3 := Option.some.inj e3
    obtain rfl : z4 = x4 := Option.some.inj e4
    obtain rfl : z5 = x5 := Option.some.inj e5
    obtain rfl : z6 = x6 := Option.some.inj e6
    obtain rfl : z7 = x7 := Option.some.inj e7
    obtain rfl : z8 = x8 := Option.some.inj e8
    obtain rfl : z9 = x9 := Option.some.inj e9
    obtain rfl : z10 = x10 := Option.some.inj e10
    obtain rfl : z11 = x11 := Option.some.inj e11
    obtain rfl : z12 = x12 := Option.some.inj e12
    obtain rfl : z13 = x13 := Option.some.inj e13
    obtain rfl : z14 = x14 := Option.some.inj e14
    obtain rfl : z15 = x15 := Option.some.inj e15
    obtain rfl : z16 = x16 := Option.some.inj e16
    obtain rfl : z17 = x17 := Option.some.inj e17
    obtain rfl : z18 = x18 := Option.some.inj e18
    obtain rfl : z19 = x19 := Option.some.inj e19
    obtain rfl : z20 = x20 := Option.some.inj e20
    obtain rfl : z21 = x21 := Option.some.inj e21
    obtain rfl : z22 = x22 := Option.some.inj e22
    obtain rfl : z23 = x23 := Option.some.inj e23
    obtain rfl : z24 = x24 := Option.some.inj e24
    obtain rfl : z25 = x25 := Option.some.inj e25
    obtain rfl : z26 = x26 := Option.some.inj e26
    obtain rfl : z27 = x27 := Option.some.inj e27
    obtain rfl : z28 = x28 := Option.some.inj e28
    obtain rfl : z29 = x29 := Option.some.inj e29
    obtain rfl : z30 = x30 := Option.some.inj e30
    obtain ⟨c0, rfl, h0⟩ := cell_int Tryd.underlying3 k0
    obtain ⟨c1, rfl⟩ := cell_bool Tryd.underlying4 k1
    obtain ⟨c2, rfl⟩ := cell_bool Tryd.underlying4 k2
    obtain ⟨c3, rfl, h3⟩ := cell_int Tryd.underlying3 k3
    obtain ⟨c4, rfl⟩ := cell_bool Tryd.underlying4 k4
    obtain ⟨c5, rfl⟩ := cell_bool Tryd.underlying4 k5
    obtain ⟨c6, rfl⟩ := cell_bool Tryd.underlying4 k6
    obtain ⟨c7, rfl⟩ := cell_bool Tryd.underlying4 k7
    obtain ⟨c8, rfl, h8⟩ := cell_int Tryd.underlying3 k8
    obtain ⟨c9, rfl, h9⟩ := cell_int Tryd.underlying3 k9
    obtain ⟨n10, rfl, h10⟩ := cell_int Tryd.underlying5 k10
    obtain ⟨c10, rfl⟩ := u8_has h10
    obtain ⟨n11, rfl, h11⟩ := cell_int Tryd.underlying5 k11
    obtain ⟨c11, rfl⟩ := u8_has h11
    obtain ⟨n12, rfl, h12⟩ := cell_int Tryd.underlying5 k12
    obtain ⟨c12, rfl⟩ := u8_has h12
    obtain ⟨n13, rfl, h13⟩ := cell_int Tryd.underlying5 k13
    obtain ⟨c13, rfl⟩ := u8_has h13
    obtain ⟨n14, rfl, h14⟩ := cell_int Tryd.underlying5 k14
    obtain ⟨c14, rfl⟩ := u8_has h14
    obtain ⟨n15, rfl, h15⟩ := cell_int Tryd.underlying5 k15
    obtain ⟨c15, rfl⟩ := u8_has h15
    obtain ⟨c16, rfl, h16⟩ := cell_int Tryd.underlying3 k16
    obtain ⟨c17, rfl, h17⟩ := cell_int Tryd.underlying3 k17
    obtain ⟨c18, rfl, h18⟩ := cell_int Tryd.underlying3 k18
    obtain ⟨n19, rfl, h19⟩ := cell_int Tryd.underlying5 k19
    obtain ⟨c19, rfl⟩ := u8_has h19
    obtain ⟨n20, rfl, h20⟩ := cell_int Tryd.underlying5 k20
    obtain ⟨c20, rfl⟩ := u8_has h20
    obtain ⟨n21, rfl, h21⟩ := cell_int Tryd.underlying5 k21
    obtain ⟨c21, rfl⟩ := u8_has h21
    obtain ⟨n22, rfl, h22⟩ := cell_int Tryd.underlying5 k22
    obtain ⟨c22, rfl⟩ := u8_has h22
    obtain ⟨n23, rfl, h23⟩ := cell_int Tryd.underlying5 k23
    obtain ⟨c23, rfl⟩ := u8_has h23
    obtain ⟨n24, rfl, h24⟩ := cell_int Tryd.underlying5 k24
    obtain ⟨c24, rfl⟩ := u8_has h24
    obtain ⟨c25, rfl, h25⟩ := cell_int Tryd.underlying3 k25
    obtain ⟨c26, rfl, h26⟩ := cell_int Tryd.underlying3 k26
    obtain ⟨c27, rfl, h27⟩ := cell_int Tryd.underlying3 k27
    obtain ⟨c28, rfl, h28⟩ := cell_int Tryd.underlying3 k28
    obtain ⟨c29, rfl, h29⟩ := cell_int Tryd.underlying3 k29
    obtain ⟨c30, rfl, h30⟩ := cell_int Tryd.underlying3 k30
    exact ⟨⟨c0, ⟨c1, c2, c3, c4, c5, c6, c7⟩, ⟨c8, c9, ⟨c10, c11, c12, c13, c14, c15⟩⟩, c16, ⟨c17, c18, ⟨c19, c20, c21, c22, c23, c24⟩⟩, ⟨c25, c26⟩, c27, c28, c29, c30⟩, rfl⟩
theorem Bp.ok_kind {b : Bp} (h : b.okB = true) : (b.kind = 1 ∧ b.bytes.length = 35) ∨ (b.kind = 2 ∧ b.bytes.length = 4) ∨ (b.kind = 3 ∧ b.bytes.length = 36) := by
  unfold Bp.okB at h
  split at h
  · rename_i h2
    exact .inr (.inl ⟨h2, by unfold Bp.bytes; rw [if_pos h2, headB_len]⟩)
  · rename_i h2
    split at h
    · rename_i h1
      exact .inl ⟨h1, by unfold Bp.bytes; rw [if_neg h2, if_pos h1, List.length_append, headB_len, Bp.body_len]⟩
    · rename_i h1
      split at h
      · rename_i h3
        exact .inr (.inr ⟨h3, by unfold Bp.bytes; rw [if_neg h2, if_neg h1, List.length_append, List.length_append, headB_len, Bp.body_len]; rfl⟩)
      · cases h
set_option maxRecDepth 100000 in
set_option maxHeartbeats 4000000 in
theorem law_BpduBack (v : Value) (b : Bp) (more : List UInt8) (_ : more.length ≤ 9223372036854775807) (w : World) (hv : v = .agg b.vals.toArray) (hE : ErrVar w) :
    Calls Tryd.prog 4 #[v, .string ⟨more.toArray⟩] w fun e w' => e = .returned (.bool true) ∧ Below w.heap.size w w' := by
  subst hv
  have H0 := Lib.hid ((St.init w).alloc b.vals 44)
  have HE := Lib.hid hE
  clear hE
  by_cases hm : 200 < more.length
  · have hmI : (200 : Int) < (more.length : Int) := by omega
    go_enter Tryd.func4, Tryd.ntmps4
    go_upto_region 1 with (fail)
    generalize World.alloc _ _ = w0 at *
    go_wp2_with (first
      | ((with_reducible refine (bridged_any _).mono ?_)
         rintro e w1 ⟨rfl, hb1⟩
         have H1 := Lib.hid (H0.out.ext hb1)
         clear hb1))
    go_ret
    exact ⟨rfl, H1.out.below⟩
  · have hmI : ¬ (200 : Int) < (more.length : Int) := by omega
    have hm' : more.length ≤ 200 := by omega
    cases hk : b.okB
    · have HW := Lib.hid (bpWrite_no b hk)
      have HK := Lib.hid hk
      clear hk
      go_enter Tryd.func4, Tryd.ntmps4
      go_upto_region 1 with (fail)
      generalize World.alloc _ _ = w0 at *
      go_upto_region 5 with (first
        | ((with_reducible refine (bridged_any _).mono ?_)
           rintro e w1 ⟨rfl, hb1⟩
           have H1 := Lib.hid (H0.out.ext hb1)
           clear hb1))
      go_upto_region 6 with (first
        | (with_reducible refine wpList_load_rng (ty := 44) b.vals (by with_unfolding_all rfl) (Blk.box (H1.out.at 0 rfl)).range Tryd.underlying44 (by with_unfolding_all rfl) (by with_unfolding_all exact info44) ?_)
        | ((with_reducible refine (HW.out _).mono ?_)
           rintro e w2 ⟨rfl, hb2⟩
           have H2 := Lib.hid (H1.out.ext hb2)
           clear hb2))
      go_wp2_with (first
        | (with_reducible refine wpList_load_rng (ty := 44) b.vals (by with_unfolding_all rfl) (Blk.box (H2.out.at 0 rfl)).range Tryd.underlying44 (by with_unfolding_all rfl) (by with_unfolding_all exact info44) ?_)
        | ((with_reducible refine (bpRight_any b _).mono ?_)
           rintro e w3 ⟨rfl, hb3⟩
           rw [HK.out]
           have H3 := Lib.hid (H2.out.ext hb3)
           clear hb3)
        | ((with_reducible refine (tell_errno 1 _ (HE.out.keep H3.out.below)).mono ?_)
           rintro e w4 ⟨rfl, hb4⟩
           have H4 := Lib.hid (H3.out.ext hb4)
           clear hb4))
      go_ret
      exact ⟨rfl, H4.out.below⟩
    · have HW := Lib.hid (bpWrite_ok b hk)
      have HR := Lib.hid (bpRead_ok b more hk (by omega))
      have HK := Lib.hid hk
      have hkind := Bp.ok_kind hk
      have EQ := bp_eq b b
      rw [decide_eq_true rfl] at EQ
      have GQ := fun p q => bp_guard .eql b b p q
      have hix : ∀ W, (Instr.index 50 (.agg #[.int .i64 0, .int .i64 35, .int .i64 4, .int .i64 36]) (.int .i64 1)).run Tryd.prog W = .ok (.int .i64 35) W := fun W => by kernel_rfl
      have hix2 : ∀ W, (Instr.index 50 (.agg #[.int .i64 0, .int .i64 35, .int .i64 4, .int .i64 36]) (.int .i64 2)).run Tryd.prog W = .ok (.int .i64 4) W := fun W => by kernel_rfl
      have hix3 : ∀ W, (Instr.index 50 (.agg #[.int .i64 0, .int .i64 35, .int .i64 4, .int .i64 36]) (.int .i64 3)).run Tryd.prog W = .ok (.int .i64 36) W := fun W => by kernel_rfl
      clear hk
      generalize b.bytes = S at *
      rcases hkind with ⟨hkd, hl⟩ | ⟨hkd, hl⟩ | ⟨hkd, hl⟩
      all_goals
        have Hkd := Lib.hid hkd
        have hlS : S.length ≤ 36 := by omega
        have hlI := congrArg (Nat.cast (R := Int)) hl
        have Hl := Lib.hid hlI
        clear hkd hl hlI
        go_enter Tryd.func4, Tryd.ntmps4
        go_upto_region 1 with (fail)
        generalize World.alloc _ _ = w0 at *
        go_upto_region 5 with (first
          | ((with_reducible refine (bridged_any _).mono ?_)
             rintro e w1 ⟨rfl, hb1⟩
             have H1 := Lib.hid (H0.out.ext hb1)
             clear hb1))
        go_upto_region 6 with (first
          | (with_reducible refine wpList_load_rng (ty := 44) b.vals (by with_unfolding_all rfl) (Blk.box (H1.out.at 0 rfl)).range Tryd.underlying44 (by with_unfolding_all rfl) (by with_unfolding_all exact info44) ?_)
          | ((with_reducible refine (HW.out _).mono ?_)
             rintro e w2 ⟨rfl, hb2⟩
             have H2 := Lib.hid (H1.out.ext hb2)
             clear hb2))
        go_upto_region 8 with (first
          | (with_reducible refine wpList_load_rng (ty := 44) b.vals (by with_unfolding_all rfl) (Blk.box (H2.out.at 0 rfl)).range Tryd.underlying44 (by with_unfolding_all rfl) (by with_unfolding_all exact info44) ?_)
          | ((with_reducible refine (bpRight_any b _).mono ?_)
             rintro e w3 ⟨rfl, hb3⟩
             rw [HK.out]
             have H3 := Lib.hid (H2.out.ext hb3)
             clear hb3))
        have c3 := (bp_in (Blk.box (H3.out.at 0 rfl))).kind
        rw [Hkd.out] at c3
        go_upto_region 11 with (first
          | ((with_reducible refine (HR.out _).mono ?_)
             rintro e w4 ⟨rfl, hb4⟩
             have H4 := Lib.hid (H3.out.ext hb4)
             clear hb4)
          | (with_reducible refine wpList_store_blk (ty := 44) (o := 0) _ b.vals (by with_unfolding_all rfl) (by with_unfolding_all rfl) (Blk.new w4 zBp 44) (by with_unfolding_all exact Nat.le_refl _) (by with_unfolding_all exact info44) (Bp.one _) (fun W5 hBW5 hoW5 => ?_)))
        have H5 : Hid (St w.heap.size w W5 [bk w4.heap.size 44 b.vals, bk w.heap.size 44 b.vals]) := Lib.hid ((H4.out.alloc zBp 44).sets (L' := b.vals) hBW5 hoW5)
        have c5 := (bp_in (Blk.box (H5.out.at 1 rfl))).kind
        rw [Hkd.out] at c5
        clear hBW5 hoW5 H4 H3 H2 H1 H0 c3
        generalize w4.heap.size = P at *
        go_wp2_with (first
          | (with_reducible refine wpList_load_rngG (ty := 44) b.vals (by with_unfolding_all rfl) (by with_unfolding_all rfl) (Blk.box (H5.out.at 0 rfl)).range Tryd.underlying44 (by with_unfolding_all rfl) (by with_unfolding_all exact info44) ?_)
          | (with_reducible refine wpList_load_rngG (ty := 44) b.vals (by with_unfolding_all rfl) (by with_unfolding_all rfl) (Blk.box (H5.out.at 1 rfl)).range Tryd.underlying44 (by with_unfolding_all rfl) (by with_unfolding_all exact info44) ?_))
        rw [Hl.out]
        go_ret
        exact ⟨rfl, H5.out.below⟩
set_option maxRecDepth 100000 in
set_option maxHeartbeats 4000000 in
theorem law_BpduStill (s : List UInt8) (n : Int) (_ : s.length ≤ 9223372036854775807) (_ : (Lit.int .i64 n).wf = true) (w : World) (hE : ErrVar w) :
    Calls Tryd.prog 5 #[.string ⟨s.toArray⟩, .int .i64 n] w fun e w' => e = .returned (.bool true) ∧ Below w.heap.size w w' := by
  have H0 := Lib.hid (St.init w)
  have HE := Lib.hid hE
  clear hE
  by_cases hm : 300 < s.length
  · have hmI : (300 : Int) < (s.length : Int) := by omega
    go_enter Tryd.func5, Tryd.ntmps5
    go_wp2_with (first
      | ((with_reducible refine (bridged_any _).mono ?_)
         rintro e w1 ⟨rfl, hb1⟩
         have H1 := Lib.hid (H0.out.ext hb1)
         clear hb1))
    go_ret
    exact ⟨rfl, H1.out.below⟩
  · have hmI : ¬ (300 : Int) < (s.length : Int) := by omega
    have hm' : s.length ≤ 300 := by omega
    by_cases hr : (readBpM s).2.err = none
    · have HY := Lib.hid (bpRead_yes s (by omega) hr)
      obtain ⟨hx, hlen⟩ := readBp_back s (by omega) hr
      generalize (readBpM s).1 = x at *
      have HW := Lib.hid (bpWrite_ok x hx)
      have HR := Lib.hid (bpRead_ok x [] hx (by decide))
      rw [List.append_nil] at HR
      have HK := Lib.hid hx
      have hl4 : 4 ≤ x.bytes.length ∧ x.bytes.length ≤ 36 := by rcases Bp.ok_kind hx with ⟨_, h⟩ | ⟨_, h⟩ | ⟨_, h⟩ <;> omega
      have EQ := bp_neq x x
      rw [decide_eq_true rfl] at EQ
      have GQ := fun p q => bp_guard .neq x x p q
      have hpk := pickN_lt n x.bytes.length (by omega)
      have HC := Lib.hid (bpRead_cut x (pickN n x.bytes.length) hx hpk)
      have HPk := Lib.hid (fun W => pick_any n x.bytes.length W (by omega) (by omega))
      generalize pickN n x.bytes.length = k at *
      clear hr hx
      generalize x.bytes = S at *
      have hne : (S == []) = false := by
        rw [beq_eq_false_iff_ne]
        intro h; rw [h] at hl4; simp at hl4
      obtain ⟨hl4, hl36⟩ := hl4
      have hle : ¬ (s.length : Int) < (S.length : Int) := by omega
      have HG : Hid ((some (decide (s.length < S.length)) == some false) = true) := Lib.hid (by rw [decide_eq_false (by omega)]; rfl)
      go_enter Tryd.func5, Tryd.ntmps5
      go_upto_region 5 with (first
        | ((with_reducible refine (bridged_any _).mono ?_)
           rintro e w1 ⟨rfl, hb1⟩
           have H1 := Lib.hid (H0.out.ext hb1)
           clear hb1))
      go_upto_region 6 with (first
        | ((with_reducible refine (HY.out _).mono ?_)
           rintro e w2 ⟨rfl, hb2⟩
           have H2 := Lib.hid (H1.out.ext hb2)
           clear hb2)
        | (with_reducible refine wpList_store_blk (ty := 44) (o := 0) _ x.vals (by with_unfolding_all rfl) (by with_unfolding_all rfl) (Blk.new w2 zBp 44) (by with_unfolding_all exact Nat.le_refl _) (by with_unfolding_all exact info44) (Bp.one _) (fun W3 hBW3 hoW3 => ?_)))
      have H3 : Hid (St w.heap.size w W3 [bk w2.heap.size 44 x.vals]) := Lib.hid ((H2.out.alloc zBp 44).sets (L' := x.vals) hBW3 hoW3)
      clear hBW3 hoW3 H0 H1 H2
      generalize w2.heap.size = P at *
      go_upto_region 9 with (first
        | (with_reducible refine wpList_load_rng (ty := 44) x.vals (by with_unfolding_all rfl) (Blk.box (H3.out.at 0 rfl)).range Tryd.underlying44 (by with_unfolding_all rfl) (by with_unfolding_all exact info44) ?_)
        | ((with_reducible refine (HW.out _).mono ?_)
           rintro e w4 ⟨rfl, hb4⟩
           have H4 := Lib.hid (H3.out.ext hb4)
           clear hb4))
      go_upto_region 10 with (first
        | ((with_reducible refine (HR.out _).mono ?_)
           rintro e w5 ⟨rfl, hb5⟩
           have H5 := Lib.hid (H4.out.ext hb5)
           clear hb5)
        | (with_reducible refine wpList_store_blk (ty := 44) (o := 0) _ x.vals (by with_unfolding_all rfl) (by with_unfolding_all rfl) (Blk.new w5 zBp 44) (by with_unfolding_all exact Nat.le_refl _) (by with_unfolding_all exact info44) (Bp.one _) (fun W6 hBW6 hoW6 => ?_)))
      have H6 : Hid (St w.heap.size w W6 [bk w5.heap.size 44 x.vals, bk P 44 x.vals]) := Lib.hid ((H5.out.alloc zBp 44).sets (L' := x.vals) hBW6 hoW6)
      clear hBW6 hoW6 H3 H4 H5
      generalize w5.heap.size = P5 at *
      have R60 := Lib.hid (Blk.box (H6.out.at 0 rfl)).range
      have R61 := Lib.hid (Blk.box (H6.out.at 1 rfl)).range
      go_upto_region 12 with (first
        | (with_reducible refine wpList_load_rngG (ty := 44) x.vals (by with_unfolding_all rfl) (by with_unfolding_all rfl) R60.out Tryd.underlying44 (by with_unfolding_all rfl) (by with_unfolding_all exact info44) ?_)
        | (with_reducible refine wpList_load_rngG (ty := 44) x.vals (by with_unfolding_all rfl) (by with_unfolding_all rfl) R61.out Tryd.underlying44 (by with_unfolding_all rfl) (by with_unfolding_all exact info44) ?_)
        | (with_reducible refine wpList_load_rngG (ty := 44) x.vals (by with_unfolding_all exact HG.out) (by with_unfolding_all rfl) R61.out Tryd.underlying44 (by with_unfolding_all rfl) (by with_unfolding_all exact info44) ?_)
        | ((with_reducible refine (bpRight_any x _).mono ?_)
           rintro e w7 ⟨rfl, hb7⟩
           rw [HK.out]
           have H7 := Lib.hid (H6.out.ext hb7)
           clear hb7))
      go_upto_region 13 with (first
        | ((with_reducible refine (HPk.out _).mono ?_)
           rintro e w8 ⟨rfl, rfl⟩
           skip)
        | ((with_reducible refine (HC.out _).mono ?_)
           rintro e w9 ⟨g, rfl, hb9, hc9⟩
           have H9 := Lib.hid (H7.out.ext hb9)
           have C9 := Lib.hid hc9
           clear hb9 hc9)
        | (with_reducible refine wpList_store_blk (ty := 44) (o := 0) _ Bp.zero.vals (by with_unfolding_all rfl) (by with_unfolding_all rfl) (Blk.new w9 zBp 44) (by with_unfolding_all exact Nat.le_refl _) (by with_unfolding_all exact info44) (Bp.one _) (fun W10 hBW10 hoW10 => ?_)))
      have H10 := Lib.hid ((H9.out.alloc zBp 44).sets (L' := Bp.zero.vals) hBW10 hoW10)
      have C10 : Hid (W10.cell? ⟨g, 0, none⟩ = some (.int .i64 7)) := Lib.hid (by
        have hlt := World.block_lt_of_cell? w9 _ C9.out
        have ho : Only w9.heap.size (w9.alloc (.cells zBp.toArray 44)) W10 := hoW10
        rw [World.cell?_of_block (w := w9.alloc (.cells zBp.toArray 44)) (a := ⟨g, 0, none⟩) (ho.block g (by have : g < w9.heap.size := hlt; omega)), World.cell?_alloc_lt _ _ ⟨g, 0, none⟩ hlt]
        exact C9.out)
      clear hBW10 hoW10 H9 C9
      go_wp2_with (first
        | ((with_reducible refine (tell_at g 7 _ (HE.out.keep H10.out.below) C10.out).mono ?_)
           rintro e w11 ⟨rfl, hb11⟩
           have H11 := Lib.hid (H10.out.ext hb11)
           clear hb11))
      go_ret
      exact ⟨rfl, H11.out.below⟩
    · have HN := Lib.hid (bpRead_not s (by omega) hr)
      clear hr
      have EZ := bp_eq Bp.zero Bp.zero
      rw [decide_eq_true rfl] at EZ
      have GZ := fun p q => bp_guard .eql Bp.zero Bp.zero p q
      have PZ := Lib.hid bp_zero
      have PO := Bp.one Bp.zero
      generalize Bp.zero = Z at *
      go_enter Tryd.func5, Tryd.ntmps5
      go_upto_region 5 with (first
        | ((with_reducible refine (bridged_any _).mono ?_)
           rintro e w1 ⟨rfl, hb1⟩
           have H1 := Lib.hid (H0.out.ext hb1)
           clear hb1))
      go_upto_region 6 with (first
        | ((with_reducible refine (HN.out _).mono ?_)
           rintro e w2 ⟨g2, rfl, hb2⟩
           have H2 := Lib.hid (H1.out.ext hb2)
           clear hb2)
        | (with_reducible refine wpList_store_blk (ty := 44) (o := 0) _ Z.vals (by with_unfolding_all rfl) (by with_unfolding_all rfl) (Blk.new w2 zBp 44) (by with_unfolding_all exact Nat.le_refl _) (by with_unfolding_all exact info44) PO (fun W3 hBW3 hoW3 => ?_)))
      have H3 : Hid (St w.heap.size w W3 [bk w2.heap.size 44 Z.vals]) := Lib.hid ((H2.out.alloc zBp 44).sets (L' := Z.vals) hBW3 hoW3)
      clear hBW3 hoW3 H0 H1 H2
      go_wp2_with (first
        | (with_reducible refine wpList_load_rng (ty := 44) Z.vals (by with_unfolding_all rfl) (Blk.box (H3.out.at 0 rfl)).range Tryd.underlying44 (by with_unfolding_all rfl) (by with_unfolding_all exact info44) ?_)
        | (with_reducible refine wpList_buildA (t := 44) [] Z.vals (by with_unfolding_all rfl) PZ.out ?_))
      go_ret
      exact ⟨rfl, H3.out.below⟩
end Go.Proofs.YtidcjbanhdpkkaaDoor

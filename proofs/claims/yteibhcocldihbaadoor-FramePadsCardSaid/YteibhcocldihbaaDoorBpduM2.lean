/- BPDUs, as plain data: what is written, what is read. No program in sight. -/
import Derived.Test.YteibhcocldihbaaDoorBpduM
set_option linter.all false
namespace Go.Proofs.YteibhcocldihbaaDoor
structure Bp where
  kind : Int
  fl : Fl
  root : Br
  cost : Int
  sender : Br
  port : Pt
  age : Int
  max : Int
  hello : Int
  wait : Int
deriving DecidableEq, Inhabited
def Ad.zero : Ad := ⟨0, 0, 0, 0, 0, 0⟩
def Br.zero : Br := ⟨0, 0, Ad.zero⟩
def Pt.zero : Pt := ⟨0, 0⟩
def Fl.zero : Fl := ⟨false, false, 0, false, false, false, false⟩
def Bp.zero : Bp := ⟨0, Fl.zero, Br.zero, 0, Br.zero, Pt.zero, 0, 0, 0, 0⟩
def Bp.notice : Bp := { Bp.zero with kind := 2 }
/-- Only Change and Ack. -/
def Fl.two (f : Fl) : Fl := ⟨f.change, false, 0, false, false, false, f.ack⟩
def tm (n : Int) : Bool := decide (0 ≤ n) && decide (n ≤ 65535)
def Bp.restB (b : Bp) : Bool := b.root.okB && (b.sender.okB && (b.port.okB && (decide (0 ≤ b.cost) && (decide (b.cost < 4294967296) && (tm b.age && (tm b.max && (tm b.hello && tm b.wait)))))))
def Bp.okB (b : Bp) : Bool := if b.kind = 2 then decide (b = Bp.notice) else if b.kind = 1 then decide (b.fl = b.fl.two) && b.restB else if b.kind = 3 then b.fl.okB && b.restB else false
structure Bp.Rest (b : Bp) : Prop where
  root : b.root.okB = true
  sender : b.sender.okB = true
  port : b.port.okB = true
  cost0 : 0 ≤ b.cost
  cost1 : b.cost < 4294967296
  age0 : 0 ≤ b.age
  age1 : b.age ≤ 65535
  max0 : 0 ≤ b.max
  max1 : b.max ≤ 65535
  hello0 : 0 ≤ b.hello
  hello1 : b.hello ≤ 65535
  wait0 : 0 ≤ b.wait
  wait1 : b.wait ≤ 65535
theorem Bp.rest_iff {b : Bp} : b.restB = true ↔ b.Rest := by
  constructor
  · intro h
    simp only [Bp.restB, tm, Bool.and_eq_true, decide_eq_true_eq] at h
    obtain ⟨a1, a2, a3, a4, a5, ⟨a6, a7⟩, ⟨a8, a9⟩, ⟨a10, a11⟩, a12, a13⟩ := h
    exact ⟨a1, a2, a3, a4, a5, a6, a7, a8, a9, a10, a11, a12, a13⟩
  · rintro ⟨a1, a2, a3, a4, a5, a6, a7, a8, a9, a10, a11, a12, a13⟩
    simp only [Bp.restB, tm, Bool.and_eq_true, decide_eq_true_eq]
    exact ⟨a1, a2, a3, a4, a5, ⟨a6, a7⟩, ⟨a8, a9⟩, ⟨a10, a11⟩, a12, a13⟩
/-- What stands behind the head. -/
def Bp.body (b : Bp) : List UInt8 := beBytes b.fl.byte 1 ++ b.root.bytes ++ beBytes b.cost.toNat 4 ++ b.sender.bytes ++ b.port.bytes ++ beBytes b.age.toNat 2 ++ beBytes b.max.toNat 2 ++ beBytes b.hello.toNat 2 ++ beBytes b.wait.toNat 2
theorem Bp.body_len (b : Bp) : b.body.length = 31 := by simp [Bp.body, beBytes_len, Br.bytes_len, Pt.bytes_len]
def headB (kind : Int) : List UInt8 := if kind = 1 then [0, 0, 0, 0] else if kind = 2 then [0, 0, 0, 128] else [0, 0, 2, 2]
theorem headB_len (kind : Int) : (headB kind).length = 4 := by
  unfold headB
  split
  · rfl
  · split <;> rfl
def Bp.bytes (b : Bp) : List UInt8 := if b.kind = 2 then headB 2 else if b.kind = 1 then headB 1 ++ b.body else headB 3 ++ b.body ++ [0]
def readBodyM (R : RS) (kind : Int) : Bp × RS :=
  let f := numM R 1
  let a := readBrM f.2
  let c := numM a.2 4
  let s := readBrM c.2
  let p := readPtM s.2
  let n1 := numM p.2 2
  let n2 := numM n1.2 2
  let n3 := numM n2.2 2
  let n4 := numM n3.2 2
  (⟨kind, Fl.of f.1, a.1, c.1, s.1, p.1, n1.1, n2.1, n3.1, n4.1⟩, n4.2)
theorem RS.ok.body {R : RS} (h : R.ok) (kind : Int) : (readBodyM R kind).2.ok := ((((((((h.num 1).br).num 4).br).pt).num 2).num 2).num 2).num 2
/-- Which kind a head is of; 0: of none. -/
def kindM (h : List UInt8 × RS) : Int := if h.2.err = none then (if h.1 = [0, 0, 0, 0] then 1 else if h.1 = [0, 0, 0, 128] then 2 else if h.1 = [0, 0, 2, 2] then 3 else 0) else 0
/-- What is read, ahead of the last look at the error. -/
def readBpM (s : List UInt8) : Bp × RS :=
  let h := bytesM (newM s 0) 4
  let k := kindM h
  if k = 1 then ({ (readBodyM h.2 1).1 with fl := (readBodyM h.2 1).1.fl.two }, (readBodyM h.2 1).2)
  else if k = 3 then
    let b := readBodyM h.2 3
    let n := numM b.2 1
    (b.1, if n.1 ≠ 0 then failM n.2 3 (b.2.place : Int) else n.2)
  else if k = 0 then (Bp.zero, failM h.2 3 0)
  else (Bp.notice, h.2)
theorem readBody_left {R : RS} {b : Bp} {rest : List UInt8} (hb : b.Rest) (hf : b.fl.okB = true) (kind : Int) (h : R.Left (b.body ++ rest)) : ∃ R', readBodyM R kind = ({ b with kind := kind }, R') ∧ R'.Left rest := by
  have g0 : R.Left (beBytes b.fl.byte 1 ++ (b.root.bytes ++ (beBytes b.cost.toNat 4 ++ (b.sender.bytes ++ (b.port.bytes ++ (beBytes b.age.toNat 2 ++ (beBytes b.max.toNat 2 ++ (beBytes b.hello.toNat 2 ++ (beBytes b.wait.toNat 2 ++ rest))))))))) := by
    simpa [Bp.body, List.append_assoc] using h
  have g1 := g0.skip (beBytes_len _ 1)
  obtain ⟨e1, g2⟩ := readBr_left hb.root g1
  have g3 := g2.skip (beBytes_len _ 4)
  obtain ⟨e3, g4⟩ := readBr_left hb.sender g3
  obtain ⟨e4, g5⟩ := readPt_left hb.port g4
  have g6 := g5.skip (beBytes_len _ 2)
  have g7 := g6.skip (beBytes_len _ 2)
  have g8 := g7.skip (beBytes_len _ 2)
  have g9 := g8.skip (beBytes_len _ 2)
  have := Fl.byte_lt _ hf
  obtain ⟨_, _, _, a4, a5, a6, a7, a8, a9, a10, a11, a12, a13⟩ := hb
  refine ⟨_, ?_, g9⟩
  unfold readBodyM
  simp only [numM_be g0 (show b.fl.byte < 256 ^ 1 by omega), e1, numM_be g2 (show b.cost.toNat < 256 ^ 4 by omega), e3, e4, numM_be g5 (show b.age.toNat < 256 ^ 2 by omega), numM_be g6 (show b.max.toNat < 256 ^ 2 by omega), numM_be g7 (show b.hello.toNat < 256 ^ 2 by omega), numM_be g8 (show b.wait.toNat < 256 ^ 2 by omega), Fl.of_byte _ hf]
  cases b
  simp only [Prod.mk.injEq, Bp.mk.injEq, and_true, true_and] at *
  omega
theorem Fl.two_ok (f : Fl) : f.two.okB = true := by simp [Fl.okB, Fl.two]
theorem Fl.two_two (f : Fl) : f.two.two = f.two := rfl
/-- What is written is read, whatever stands behind it. -/
theorem readBp_bytes (b : Bp) (more : List UInt8) (hb : b.okB = true) (hm : (b.bytes ++ more).length ≤ 4611686018427387904) : ∃ R, readBpM (b.bytes ++ more) = (b, R) ∧ R.err = none := by
  have g0 := newM_left (b.bytes ++ more) 0 (by omega)
  unfold Bp.okB at hb
  split at hb
  · rename_i hk
    have hb : b = Bp.notice := by simpa using hb
    subst hb
    have e : Bp.notice.bytes = headB 2 := rfl
    rw [e] at g0 ⊢
    have h1 := bytesM_left g0 (headB_len 2)
    have g1 := g0.skip (headB_len 2)
    refine ⟨_, ?_, g1.none⟩
    unfold readBpM
    simp only [h1]
    have hkm : kindM (headB 2, (newM (headB 2 ++ more) 0).skip 4) = 2 := by unfold kindM; rw [if_pos g1.none]; rfl
    rw [hkm]
    simp
  · rename_i hk2
    split at hb
    · rename_i hk
      simp only [Bool.and_eq_true, decide_eq_true_eq] at hb
      obtain ⟨hf, hr⟩ := hb
      have e : b.bytes = headB 1 ++ b.body := by unfold Bp.bytes; rw [if_neg hk2, if_pos hk]
      rw [e] at g0 ⊢
      rw [List.append_assoc] at g0 ⊢
      have h1 := bytesM_left g0 (headB_len 1)
      have g1 := g0.skip (headB_len 1)
      obtain ⟨R', h2, g2⟩ := readBody_left (Bp.rest_iff.1 hr) (by rw [hf]; exact Fl.two_ok _) 1 g1
      refine ⟨R', ?_, g2.none⟩
      unfold readBpM
      simp only [h1]
      have hkm : kindM (headB 1, (newM (headB 1 ++ (b.body ++ more)) 0).skip 4) = 1 := by unfold kindM; rw [if_pos g1.none]; rfl
      rw [hkm]
      simp only [if_true, h2]
      rw [← hf, ← hk]
    · rename_i hk1
      split at hb
      · rename_i hk
        simp only [Bool.and_eq_true] at hb
        obtain ⟨hf, hr⟩ := hb
        have e : b.bytes ++ more = headB 3 ++ (b.body ++ ([0] ++ more)) := by unfold Bp.bytes; rw [if_neg hk2, if_neg hk1]; simp [List.append_assoc]
        rw [e] at g0 ⊢
        have h1 := bytesM_left g0 (headB_len 3)
        have g1 := g0.skip (headB_len 3)
        obtain ⟨R', h2, g2⟩ := readBody_left (Bp.rest_iff.1 hr) hf 3 g1
        have h3 : numM R' 1 = (0, R'.skip 1) := numM_left g2 rfl
        have g3 := g2.skip (n := 1) rfl
        refine ⟨R'.skip 1, ?_, g3.none⟩
        unfold readBpM
        simp only [h1]
        have hkm : kindM (headB 3, (newM (headB 3 ++ (b.body ++ ([0] ++ more))) 0).skip 4) = 3 := by unfold kindM; rw [if_pos g1.none]; rfl
        rw [hkm, if_neg (by decide), if_pos rfl]
        simp only [h2, h3]
        rw [← hk]
        simp
      · cases hb
theorem num_tm {R : RS} {c : List UInt8} (hc : c.length = 2) : (beNum c : Int) ≤ 65535 ∧ (0 : Int) ≤ beNum c ∧ beBytes ((beNum c : Int)).toNat 2 = c := by
  have := beNum_lt c
  rw [hc] at this
  refine ⟨by omega, by omega, ?_⟩
  rw [Int.toNat_natCast, ← hc]
  exact beBytes_beNum c
theorem readBody_back {R : RS} (kind : Int) (hok : R.ok) (h : (readBodyM R kind).2.err = none) : ∃ rest, R.Left ((readBodyM R kind).1.body ++ rest) ∧ (readBodyM R kind).1.Rest ∧ (readBodyM R kind).1.fl.okB = true ∧ (readBodyM R kind).1.kind = kind ∧ (readBodyM R kind).2.Left rest := by
  have o1 := hok.num 1
  have o2 := o1.br
  have o3 := o2.num 4
  have o4 := o3.br
  have o5 := o4.pt
  have o6 := o5.num 2
  have o7 := o6.num 2
  have o8 := o7.num 2
  have hb : ∀ {R : RS} {n : Nat}, (numM R n).2.err = none → R.err = none := fun h => bytesM_err h
  have hbr : ∀ {R : RS}, (readBrM R).2.err = none → R.err = none := fun h => hb (bytesM_err h)
  have hpt : ∀ {R : RS}, (readPtM R).2.err = none → R.err = none := fun {R} h => by
    unfold readPtM at h
    simp only [] at h
    split at h
    · exact (failM_back h).elim
    · exact hb h
  have h9 : (numM (numM (numM (numM (readPtM (readBrM (numM (readBrM (numM R 1).2).2 4).2).2).2 2).2 2).2 2).2 2).2.err = none := h
  have h8 := hb h9
  have h7 := hb h8
  have h6 := hb h7
  have h5 := hb h6
  have h4 := hpt h5
  have h3 := hbr h4
  have h2 := hb h3
  have h1 := hbr h2
  obtain ⟨c1, r1, l1, L1, e1, G1⟩ := numM_back hok h1
  obtain ⟨r2, L2, k2, G2⟩ := readBr_back o1 h2
  obtain ⟨c3, r3, l3, L3, e3, G3⟩ := numM_back o2 h3
  obtain ⟨r4, L4, k4, G4⟩ := readBr_back o3 h4
  obtain ⟨r5, L5, k5, G5⟩ := readPt_back o4 h5
  obtain ⟨c6, r6, l6, L6, e6, G6⟩ := numM_back o5 h6
  obtain ⟨c7, r7, l7, L7, e7, G7⟩ := numM_back o6 h7
  obtain ⟨c8, r8, l8, L8, e8, G8⟩ := numM_back o7 h8
  obtain ⟨c9, r9, l9, L9, e9, G9⟩ := numM_back o8 h9
  have f1 : (numM R 1).1 = beNum c1 := by rw [e1]
  have f3 : (numM (readBrM (numM R 1).2).2 4).1 = beNum c3 := by rw [e3]
  have f6 : (numM (readPtM (readBrM (numM (readBrM (numM R 1).2).2 4).2).2).2 2).1 = beNum c6 := by rw [e6]
  have f7 : (numM (numM (readPtM (readBrM (numM (readBrM (numM R 1).2).2 4).2).2).2 2).2 2).1 = beNum c7 := by rw [e7]
  have f8 : (numM (numM (numM (readPtM (readBrM (numM (readBrM (numM R 1).2).2 4).2).2).2 2).2 2).2 2).1 = beNum c8 := by rw [e8]
  have f9 : (numM (numM (numM (numM (readPtM (readBrM (numM (readBrM (numM R 1).2).2 4).2).2).2 2).2 2).2 2).2 2).1 = beNum c9 := by rw [e9]
  have G1' : (numM R 1).2.Left r1 := by rw [e1]; exact G1
  have G3' : (numM (readBrM (numM R 1).2).2 4).2.Left r3 := by rw [e3]; exact G3
  have G6' : (numM (readPtM (readBrM (numM (readBrM (numM R 1).2).2 4).2).2).2 2).2.Left r6 := by rw [e6]; exact G6
  have G7' : (numM (numM (readPtM (readBrM (numM (readBrM (numM R 1).2).2 4).2).2).2 2).2 2).2.Left r7 := by rw [e7]; exact G7
  have G8' : (numM (numM (numM (readPtM (readBrM (numM (readBrM (numM R 1).2).2 4).2).2).2 2).2 2).2 2).2.Left r8 := by rw [e8]; exact G8
  have G9' : (numM (numM (numM (numM (readPtM (readBrM (numM (readBrM (numM R 1).2).2 4).2).2).2 2).2 2).2 2).2 2).2.Left r9 := by rw [e9]; exact G9
  have q1 : r1 = _ := G1'.left.symm.trans L2.left
  have q2 : r2 = c3 ++ r3 := G2.left.symm.trans L3.left
  have q3 : r3 = _ := G3'.left.symm.trans L4.left
  have q4 : r4 = _ := G4.left.symm.trans L5.left
  have q5 : r5 = c6 ++ r6 := G5.left.symm.trans L6.left
  have q6 : r6 = c7 ++ r7 := G6'.left.symm.trans L7.left
  have q7 : r7 = c8 ++ r8 := G7'.left.symm.trans L8.left
  have q8 : r8 = c9 ++ r9 := G8'.left.symm.trans L9.left
  obtain ⟨t6, u6, v6⟩ := num_tm (R := R) l6
  obtain ⟨t7, u7, v7⟩ := num_tm (R := R) l7
  obtain ⟨t8, u8, v8⟩ := num_tm (R := R) l8
  obtain ⟨t9, u9, v9⟩ := num_tm (R := R) l9
  have hc1 : beBytes (Fl.of (beNum c1)).byte 1 = c1 := by
    have hlt := beNum_lt c1
    rw [l1] at hlt
    rw [Fl.byte_of _ (by omega), ← l1]
    exact beBytes_beNum c1
  have hlt3 := beNum_lt c3
  rw [l3] at hlt3
  have hc3 : beBytes ((beNum c3 : Int)).toNat 4 = c3 := by
    rw [Int.toNat_natCast, ← l3]
    exact beBytes_beNum c3
  refine ⟨r9, ?_, ⟨k2, k4, k5, ?_, ?_, ?_, ?_, ?_, ?_, ?_, ?_, ?_, ?_⟩, Fl.of_ok _, rfl, G9'⟩
  · have e : (readBodyM R kind).1.body ++ r9 = c1 ++ r1 := by
      rw [q1, q2, q3, q4, q5, q6, q7, q8]
      unfold Bp.body readBodyM
      simp only [f1, f3, f6, f7, f8, f9, hc1, hc3, v6, v7, v8, v9, List.append_assoc]
    rw [e]; exact L1
  all_goals
    unfold readBodyM
    simp only [f3, f6, f7, f8, f9]
    omega
end Go.Proofs.YteibhcocldihbaaDoor

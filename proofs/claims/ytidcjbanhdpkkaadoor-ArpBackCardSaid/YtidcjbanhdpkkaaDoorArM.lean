/- Who has an address?, as plain data: what is written, what is read. No program in sight. -/
import Derived.Test.YtidcjbanhdpkkaaDoorLacpM
namespace Go.Proofs.YtidcjbanhdpkkaaDoor
structure Qd where
  a : UInt8
  b : UInt8
  c : UInt8
  d : UInt8
deriving DecidableEq, Inhabited
def Qd.list (x : Qd) : List UInt8 := [x.a, x.b, x.c, x.d]
def Qd.of (l : List UInt8) : Qd := ⟨l.getD 0 0, l.getD 1 0, l.getD 2 0, l.getD 3 0⟩
theorem Qd.of_list (x : Qd) : Qd.of x.list = x := rfl
theorem Qd.len (x : Qd) : x.list.length = 4 := rfl
theorem Qd.list_of {l : List UInt8} (h : l.length = 4) : (Qd.of l).list = l := by
  match l, h with
  | [_, _, _, _], _ => rfl
structure Ar where
  op : Int
  sha : Ad
  tha : Ad
  spa : Qd
  tpa : Qd
deriving DecidableEq, Inhabited
def Ar.okB (x : Ar) : Bool := decide (x.op = 1) || decide (x.op = 2)
theorem Ar.ok_iff {x : Ar} : x.okB = true ↔ x.op = 1 ∨ x.op = 2 := by simp [Ar.okB]
def headA : List UInt8 := [0, 1, 8, 0, 6, 4]
def Ar.bytes (x : Ar) : List UInt8 := headA ++ beBytes x.op.toNat 2 ++ x.sha.list ++ x.spa.list ++ x.tha.list ++ x.tpa.list
theorem Ar.bytes_len (x : Ar) : x.bytes.length = 28 := by simp [Ar.bytes, headA, beBytes_len, Ad.list, Qd.list]
def readArM (s : List UInt8) : Ar × Bool × RS :=
  let R1 := headM (newM s 0) headA
  let o := numM R1 2
  let R2 := if o.2.err = none ∧ ¬ (o.1 = 1 ∨ o.1 = 2) then failM o.2 2 6 else o.2
  let a := bytesM R2 6
  let b := bytesM a.2 4
  let c := bytesM b.2 6
  let d := bytesM c.2 4
  (⟨o.1, Ad.of a.1, Ad.of c.1, Qd.of b.1, Qd.of d.1⟩, zerosM d.2)
theorem readAr_bytes (x : Ar) (pad : List UInt8) (hx : x.okB = true) (hz : ∀ c ∈ pad, c = 0) (hl : pad.length ≤ 1000000) : ∃ R, readArM (x.bytes ++ pad) = (x, true, R) ∧ R.err = none := by
  have ho := Ar.ok_iff.1 hx
  have hlen := Ar.bytes_len x
  have g0 : (newM (x.bytes ++ pad) 0).Left (headA ++ (beBytes x.op.toNat 2 ++ (x.sha.list ++ (x.spa.list ++ (x.tha.list ++ (x.tpa.list ++ pad)))))) := by
    have := newM_left (x.bytes ++ pad) 0 (by rw [List.length_append]; omega)
    simpa [Ar.bytes, List.append_assoc] using this
  have g1 := g0.skip (n := 6) rfl
  have g2 := g1.skip (beBytes_len _ 2)
  have g3 := g2.skip (Ad.len _)
  have g4 := g3.skip (Qd.len _)
  have g5 := g4.skip (Ad.len _)
  have g6 := g5.skip (Qd.len _)
  have e0 : headM (newM (x.bytes ++ pad) 0) headA = (newM (x.bytes ++ pad) 0).skip 6 := headM_left g0
  refine ⟨{ ((((((newM (x.bytes ++ pad) 0).skip 6).skip 2).skip 6).skip 4).skip 6).skip 4 with at_ := (((((((newM (x.bytes ++ pad) 0).skip 6).skip 2).skip 6).skip 4).skip 6).skip 4).s.length }, ?_, g6.none⟩
  unfold readArM
  simp only [e0, numM_be g1 (show x.op.toNat < 256 ^ 2 by omega)]
  rw [if_neg (by omega)]
  simp only [bytesM_left g2 (Ad.len _), bytesM_left g3 (Qd.len _), bytesM_left g4 (Ad.len _), bytesM_left g5 (Qd.len _), zerosM_left g6 hz, Ad.of_list, Qd.of_list]
  rw [show ((x.op.toNat : Nat) : Int) = x.op by omega]
theorem readAr_back (s : List UInt8) (hs : s.length ≤ 4611686018427387904) (h : (readArM s).2.1 = true) : (readArM s).1.okB = true ∧ ∃ pad, s = (readArM s).1.bytes ++ pad ∧ ∀ c ∈ pad, c = 0 := by
  have ok0 : (newM s 0).ok := ⟨Nat.zero_le _, by show 0 + s.length ≤ _; omega⟩
  have o1 := ok0.head headA
  have o2 := o1.num 2
  generalize hR2 : (if (numM (headM (newM s 0) headA) 2).2.err = none ∧ ¬ ((numM (headM (newM s 0) headA) 2).1 = 1 ∨ (numM (headM (newM s 0) headA) 2).1 = 2) then failM (numM (headM (newM s 0) headA) 2).2 2 6 else (numM (headM (newM s 0) headA) 2).2) = R2
  have o3 : R2.ok := by
    subst hR2; split
    · exact o2.fail _ _
    · exact o2
  have hz : (zerosM (bytesM (bytesM (bytesM (bytesM R2 6).2 4).2 6).2 4).2).1 = true := by
    unfold readArM at h; simp only [hR2] at h; exact h
  obtain ⟨pad, gP, hp0, _⟩ := zerosM_back ((((o3.bytes 6).bytes 4).bytes 6).bytes 4) hz
  have n6 := gP.none
  have n5 := bytesM_err n6
  have n4 := bytesM_err n5
  have n3 := bytesM_err n4
  have n2 := bytesM_err n3
  have hc : ¬ ((numM (headM (newM s 0) headA) 2).2.err = none ∧ ¬ ((numM (headM (newM s 0) headA) 2).1 = 1 ∨ (numM (headM (newM s 0) headA) 2).1 = 2)) := fun hc => by
    rw [if_pos hc] at hR2; rw [← hR2] at n2; exact failM_back n2
  rw [if_neg hc] at hR2
  subst hR2
  have n1 : (headM (newM s 0) headA).err = none := bytesM_err n2
  obtain ⟨r1, L1, e1, G1⟩ := headM_back ok0 n1
  obtain ⟨c2, r2, l2, L2, e2, G2⟩ := numM_back o1 n2
  obtain ⟨c3, r3, l3, L3, e3, G3⟩ := bytesM_back o2 n3
  obtain ⟨c4, r4, l4, L4, e4, G4⟩ := bytesM_back (o2.bytes 6) n4
  obtain ⟨c5, r5, l5, L5, e5, G5⟩ := bytesM_back ((o2.bytes 6).bytes 4) n5
  obtain ⟨c6, r6, l6, L6, e6, G6⟩ := bytesM_back (((o2.bytes 6).bytes 4).bytes 6) n6
  have G1' : (headM (newM s 0) headA).Left r1 := by rw [e1]; exact G1
  have G2' : (numM (headM (newM s 0) headA) 2).2.Left r2 := by rw [e2]; exact G2
  have G3' : (bytesM (numM (headM (newM s 0) headA) 2).2 6).2.Left r3 := by rw [e3]; exact G3
  have G4' : (bytesM (bytesM (numM (headM (newM s 0) headA) 2).2 6).2 4).2.Left r4 := by rw [e4]; exact G4
  have G5' : (bytesM (bytesM (bytesM (numM (headM (newM s 0) headA) 2).2 6).2 4).2 6).2.Left r5 := by rw [e5]; exact G5
  have G6' : (bytesM (bytesM (bytesM (bytesM (numM (headM (newM s 0) headA) 2).2 6).2 4).2 6).2 4).2.Left r6 := by rw [e6]; exact G6
  have q1 : r1 = c2 ++ r2 := G1'.left.symm.trans L2.left
  have q2 : r2 = c3 ++ r3 := G2'.left.symm.trans L3.left
  have q3 : r3 = c4 ++ r4 := G3'.left.symm.trans L4.left
  have q4 : r4 = c5 ++ r5 := G4'.left.symm.trans L5.left
  have q5 : r5 = c6 ++ r6 := G5'.left.symm.trans L6.left
  have q6 : r6 = pad := G6'.left.symm.trans gP.left
  have hs0 : s = headA ++ r1 := by
    have := L1.left
    simpa [newM] using this
  have f2 : (numM (headM (newM s 0) headA) 2).1 = beNum c2 := by rw [e2]
  have f3 : (bytesM (numM (headM (newM s 0) headA) 2).2 6).1 = c3 := by rw [e3]
  have f4 : (bytesM (bytesM (numM (headM (newM s 0) headA) 2).2 6).2 4).1 = c4 := by rw [e4]
  have f5 : (bytesM (bytesM (bytesM (numM (headM (newM s 0) headA) 2).2 6).2 4).2 6).1 = c5 := by rw [e5]
  have f6 : (bytesM (bytesM (bytesM (bytesM (numM (headM (newM s 0) headA) 2).2 6).2 4).2 6).2 4).1 = c6 := by rw [e6]
  have hE : (readArM s).1 = ⟨((beNum c2 : Nat) : Int), Ad.of c3, Ad.of c5, Qd.of c4, Qd.of c6⟩ := by
    unfold readArM
    simp only [if_neg hc]
    simp only [f2, f3, f4, f5, f6]
  rw [hE]
  rw [f2] at hc
  have hop : beNum c2 = 1 ∨ beNum c2 = 2 := by
    rcases Nat.lt_or_ge (beNum c2) 3 with h' | h'
    · by_cases a : beNum c2 = 1
      · exact .inl a
      · by_cases b : beNum c2 = 2
        · exact .inr b
        · exact absurd ⟨n2, by omega⟩ hc
    · exact absurd ⟨n2, by omega⟩ hc
  refine ⟨by rw [Ar.ok_iff]; simp only []; omega, pad, ?_, hp0⟩
  unfold Ar.bytes
  simp only [Int.toNat_natCast]
  have hb : beBytes (beNum c2) 2 = c2 := by rw [← l2]; exact beBytes_beNum c2
  rw [hb, Ad.list_of l3, Qd.list_of l4, Ad.list_of l5, Qd.list_of l6]
  rw [hs0, q1, q2, q3, q4, q5, q6]
  simp only [List.append_assoc]
end Go.Proofs.YtidcjbanhdpkkaaDoor

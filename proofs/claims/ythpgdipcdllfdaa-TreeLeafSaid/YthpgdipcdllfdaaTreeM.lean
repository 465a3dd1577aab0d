/- The tree as plain data: what Solve and Roles compute, and that it is the one solution. No program in sight. -/
import Derived.Test.YthpgdipcdllfdaaLex
namespace Go.Proofs.Ythpgdipcdllfdaa
structure Ad where
  a : UInt8
  b : UInt8
  c : UInt8
  d : UInt8
  e : UInt8
  f : UInt8
deriving DecidableEq, Inhabited
def Ad.list (x : Ad) : List UInt8 := [x.a, x.b, x.c, x.d, x.e, x.f]
structure Br where
  prio : Int
  ext : Int
  ad : Ad
deriving DecidableEq, Inhabited
def Br.key (x : Br) : List Int := [x.prio, x.ext, x.ad.a.toNat, x.ad.b.toNat, x.ad.c.toNat, x.ad.d.toNat, x.ad.e.toNat, x.ad.f.toNat]
structure Pt where
  prio : Int
  no : Int
deriving DecidableEq, Inhabited
def Pt.key (x : Pt) : List Int := [x.prio, x.no]
structure Vec where
  root : Br
  cost : Int
  sender : Br
  port : Pt
  at_ : Pt
deriving DecidableEq, Inhabited
def Vec.key (x : Vec) : List Int := x.root.key ++ (x.cost :: (x.sender.key ++ (x.port.key ++ x.at_.key)))
structure Mem where
  port : Pt
  cost : Int
  lan : Int
deriving DecidableEq, Inhabited
structure Node where
  br : Br
  ports : List Mem
deriving DecidableEq, Inhabited
theorem Ad.inj {x y : Ad} (h : x.list = y.list) : x = y := by
  cases x; cases y; simpa [Ad.list] using h
theorem u8_int {x y : UInt8} (h : (x.toNat : Int) = y.toNat) : x = y := UInt8.toNat_inj.1 (by omega)
theorem Br.inj {x y : Br} (h : x.key = y.key) : x = y := by
  obtain ⟨p, q, ⟨a, b, c, d, e, f⟩⟩ := x
  obtain ⟨p', q', ⟨a', b', c', d', e', f'⟩⟩ := y
  simp only [Br.key, List.cons.injEq, and_true] at h
  obtain ⟨h0, h1, h2, h3, h4, h5, h6, h7⟩ := h
  rw [h0, h1, u8_int h2, u8_int h3, u8_int h4, u8_int h5, u8_int h6, u8_int h7]
theorem Pt.inj {x y : Pt} (h : x.key = y.key) : x = y := by
  cases x; cases y; simpa [Pt.key] using h
theorem Br.key_len (x : Br) : x.key.length = 8 := rfl
theorem Pt.key_len (x : Pt) : x.key.length = 2 := rfl
theorem Vec.key_len (x : Vec) : x.key.length = 21 := rfl
theorem Vec.inj {x y : Vec} (h : x.key = y.key) : x = y := by
  unfold Vec.key at h
  obtain ⟨h1, h2⟩ := List.append_inj h rfl
  obtain ⟨h3, h4⟩ := List.cons.inj h2
  obtain ⟨h5, h6⟩ := List.append_inj h4 rfl
  obtain ⟨h7, h8⟩ := List.append_inj h6 rfl
  have k1 := Br.inj h1
  have k5 := Br.inj h5
  have k7 := Pt.inj h7
  have k8 := Pt.inj h8
  cases x; cases y
  simp only at k1 k5 k7 k8 h3
  subst k1 k5 k7 k8 h3
  rfl
/-- Whether a vector is better. -/
def better (a b : Vec) : Bool := decide (lexI a.key b.key < 0)
theorem better_irrefl (a : Vec) : better a a = false := by simp [better, lexI_refl]
theorem better_trans {a b c : Vec} (h : better a b = true) (k : better b c = true) : better a c = true := by
  simp only [better, decide_eq_true_eq] at *; exact lexI_trans h k
theorem better_total {a b : Vec} (h : better a b = false) (k : better b a = false) : a = b := by
  simp only [better, decide_eq_false_iff_not] at *
  have := lexI_neg a.key b.key
  exact Vec.inj (lexI_zero (by omega))
theorem better_asymm {a b : Vec} (h : better a b = true) : better b a = false := by
  simp only [better, decide_eq_true_eq, decide_eq_false_iff_not] at *
  have := lexI_neg a.key b.key
  omega
/-! ### Nets -/
def rightB (b : Br) : Bool := decide (0 ≤ b.prio) && decide (b.prio ≤ 61440) && decide (b.prio % 4096 = 0) && decide (0 ≤ b.ext) && decide (b.ext ≤ 4095)
def rightP (p : Pt) : Bool := decide (0 ≤ p.prio) && decide (p.prio ≤ 240) && decide (p.prio % 16 = 0) && decide (1 ≤ p.no) && decide (p.no ≤ 4095)
def rightM (m : Mem) : Bool := rightP m.port && decide (1 ≤ m.cost) && decide (m.cost ≤ 200000000) && decide (0 ≤ m.lan) && decide (m.lan ≤ 63)
def distinctP : List Mem → Bool
  | [] => true
  | m :: r => (r.all fun q => decide (q.port ≠ m.port)) && distinctP r
def distinctB : List Node → Bool
  | [] => true
  | n :: r => (r.all fun q => decide (q.br ≠ n.br)) && distinctB r
def rightN (n : Node) : Bool := decide (n.ports.length ≤ 8) && rightB n.br && n.ports.all rightM && distinctP n.ports
def validNet (l : List Node) : Bool := decide (l.length ≤ 12) && l.all rightN && distinctB l
def nodeAt (l : List Node) (i : Nat) : Node := l.getD i default
def portAt (n : Node) (k : Nat) : Mem := n.ports.getD k default
def ownM (n : Node) : Vec := { root := n.br, cost := 0, sender := n.br, port := ⟨0, 0⟩, at_ := ⟨0, 0⟩ }
def tellsM (n : Node) (has : Vec) (k : Nat) : Vec := { root := has.root, cost := has.cost, sender := n.br, port := (portAt n k).port, at_ := ⟨0, 0⟩ }
def hearsM (n : Node) (v : Vec) (k : Nat) : Vec := { v with cost := v.cost + (portAt n k).cost, at_ := (portAt n k).port }
def onLan (l : List Node) (i k j m : Nat) : Bool := decide ((portAt (nodeAt l j) m).lan = (portAt (nodeAt l i) k).lan) && !(decide (j = i) && decide (m = k))
def othersOf (l : List Node) (has : List Vec) (i k j : Nat) : List Vec :=
  ((List.range (nodeAt l j).ports.length).filter (onLan l i k j)).map (tellsM (nodeAt l j) (has.getD j default))
def othersM (l : List Node) (has : List Vec) (i k : Nat) : List Vec := (List.range l.length).flatMap (othersOf l has i k)
def bestOf (a : Vec) (hs : List Vec) : Vec := hs.foldl (fun a h => if better h a then h else a) a
def heardM (l : List Node) (has : List Vec) (i k : Nat) : List Vec := (othersM l has i k).map fun v => hearsM (nodeAt l i) v k
def nextOf (l : List Node) (has : List Vec) (i : Nat) : Vec := bestOf (has.getD i default) ((List.range (nodeAt l i).ports.length).flatMap (heardM l has i))
def nextM (l : List Node) (has : List Vec) : List Vec := (List.range l.length).map (nextOf l has)
def roundsM (l : List Node) : Nat → List Vec
  | 0 => l.map ownM
  | t + 1 => nextM l (roundsM l t)
def solveM (l : List Node) : List Vec := roundsM l l.length
def roleM (n : Node) (has : Vec) (k : Nat) (best : Bool) : Int :=
  if best then 1 else if has.root ≠ n.br ∧ has.at_ = (portAt n k).port then 2 else 3
def bestAt (l : List Node) (has : List Vec) (i k : Nat) : Bool := !((othersM l has i k).any fun v => better v (tellsM (nodeAt l i) (has.getD i default) k))
def rolesOf (l : List Node) (has : List Vec) (i : Nat) : List Int := (List.range (nodeAt l i).ports.length).map fun k => roleM (nodeAt l i) (has.getD i default) k (bestAt l has i k)
def rolesM (l : List Node) : List (List Int) := (List.range l.length).map (rolesOf l (solveM l))
/-! ### Into numbers -/
def Br.pack (b : Br) : Nat := packI b.key
def Vec.label (v : Vec) : List Int := v.sender.key ++ (v.port.key ++ v.at_.key)
def Vec.val (v : Vec) : Val := ⟨v.root.pack, v.cost.toNat, packI v.label⟩
/-- A vector whose numbers are within bounds. -/
structure Vec.Ok (v : Vec) : Prop where
  root : Digits v.root.key
  cost : 0 ≤ v.cost
  label : Digits v.label
theorem val_lt {a b : Vec} (ha : a.Ok) (hb : b.Ok) : better a b = true ↔ Val.lt a.val b.val := by
  have h1 := lexI_pack ha.root hb.root rfl
  have h1' := lexI_pack hb.root ha.root rfl
  have h2 := lexI_pack ha.label hb.label rfl
  have h3 := lexI_neg a.root.key b.root.key
  have e1 := lexI_append (a := a.root.key) (a' := b.root.key) (a.cost :: a.label) (b.cost :: b.label) rfl
  have hc := ha.cost
  have hd := hb.cost
  have e2 : lexI (a.cost :: a.label) (b.cost :: b.label) = if a.cost < b.cost then -1 else if b.cost < a.cost then 1 else lexI a.label b.label := rfl
  unfold better Val.lt Vec.val Br.pack
  simp only [decide_eq_true_eq]
  show lexI (a.root.key ++ (a.cost :: a.label)) (b.root.key ++ (b.cost :: b.label)) < 0 ↔ _
  rw [e1, e2]
  have r1 := lexI_range a.root.key b.root.key
  by_cases z : lexI a.root.key b.root.key = 0
  · rw [if_pos z]
    by_cases c1 : a.cost < b.cost
    · rw [if_pos c1]; constructor <;> intro _ <;> omega
    · rw [if_neg c1]
      by_cases c2 : b.cost < a.cost
      · rw [if_pos c2]; constructor <;> intro _ <;> omega
      · rw [if_neg c2, h2]; constructor <;> intro _ <;> omega
  · rw [if_neg z]; constructor <;> intro _ <;> omega
theorem val_inj {a b : Vec} (ha : a.Ok) (hb : b.Ok) (h : a.val = b.val) : a = b := by
  refine better_total ?_ ?_
  · cases e : better a b
    · rfl
    · have := (val_lt ha hb).1 e; rw [h] at this; exact (Val.lt_irrefl _ this).elim
  · cases e : better b a
    · rfl
    · have := (val_lt hb ha).1 e; rw [h] at this; exact (Val.lt_irrefl _ this).elim
end Go.Proofs.Ythpgdipcdllfdaa

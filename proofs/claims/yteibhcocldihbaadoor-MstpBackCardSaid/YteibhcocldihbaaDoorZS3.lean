/- BPDUs of many trees, as plain data: what is written, what is read. No program in sight. A region that draws its order, whose LAST operation may write what the others read: what the others read is to hold behind each operation but the last one. (After the library's OrdersHeld and StillTail.) XHeld's steps for guarded operations whose guard lets them run. lacp: what may be (short, party, Right, Mark). wire.Put, wire.Must. wire.Put with any number; the order of bytes; bounds of arguments. wire.Must. lacp: a side as bytes, Write. -/
import Derived.Test.YteibhcocldihbaaDoorZS2
import Derived.Test.YteibhcocldihbaaDoorKit
import Derived.StillTail
import Derived.Deep.RegionHeld
import Derived.Deep.MidRow
import Derived.Test.YteibhcocldihbaaDoorZS1
import Derived.Test.YteibhcocldihbaaDoorRows
import Derived.Test.YteibhcocldihbaaDoorShelf
set_option linter.all false
namespace Go.Proofs.YteibhcocldihbaaDoor
structure Ins where
  fl : Fl
  root : Br
  cost : Int
  bridge : Int
  port : Int
  hops : Int
deriving DecidableEq, Inhabited
def u32 (n : Int) : Bool := decide (0 ≤ n) && decide (n < 4294967296)
def le15 (n : Int) : Bool := decide (0 ≤ n) && decide (n ≤ 15)
def le255 (n : Int) : Bool := decide (0 ≤ n) && decide (n ≤ 255)
def Ins.okB (x : Ins) : Bool := x.fl.okB && (x.root.okB && (u32 x.cost && (le15 x.bridge && (le15 x.port && le255 x.hops))))
structure Ins.Ok (x : Ins) : Prop where
  fl : x.fl.okB = true
  root : x.root.okB = true
  c0 : 0 ≤ x.cost
  c1 : x.cost < 4294967296
  b0 : 0 ≤ x.bridge
  b1 : x.bridge ≤ 15
  p0 : 0 ≤ x.port
  p1 : x.port ≤ 15
  h0 : 0 ≤ x.hops
  h1 : x.hops ≤ 255
theorem Ins.ok_iff {x : Ins} : x.okB = true ↔ x.Ok := by
  constructor
  · intro h
    simp only [Ins.okB, u32, le15, le255, Bool.and_eq_true, decide_eq_true_eq] at h
    obtain ⟨a, b, ⟨c, d⟩, ⟨e, f⟩, ⟨g, i⟩, j, k⟩ := h
    exact ⟨a, b, c, d, e, f, g, i, j, k⟩
  · rintro ⟨a, b, c, d, e, f, g, i, j, k⟩
    simp only [Ins.okB, u32, le15, le255, Bool.and_eq_true, decide_eq_true_eq]
    exact ⟨a, b, ⟨c, d⟩, ⟨e, f⟩, ⟨g, i⟩, j, k⟩
def Ins.bytes (x : Ins) : List UInt8 := beBytes x.fl.byte 1 ++ x.root.bytes ++ beBytes x.cost.toNat 4 ++ beBytes (x.bridge * 16).toNat 1 ++ beBytes (x.port * 16).toNat 1 ++ beBytes x.hops.toNat 1
theorem Ins.bytes_len (x : Ins) : x.bytes.length = 16 := by simp [Ins.bytes, beBytes_len, Br.bytes_len]
def insBytes (l : List Ins) : List UInt8 := l.flatMap Ins.bytes
theorem insBytes_len (l : List Ins) : (insBytes l).length = 16 * l.length := by
  induction l with
  | nil => rfl
  | cons x l ih =>
    simp only [insBytes, List.flatMap_cons, List.length_append, Ins.bytes_len, List.length_cons] at ih ⊢
    omega
structure Mst where
  base : Bp
  name : List UInt8
  rev : Int
  digest : List UInt8
  cost : Int
  bridge : Br
  hops : Int
  insts : List Ins
deriving DecidableEq, Inhabited
def endsNought (l : List UInt8) : Bool := decide (l.getLast? = some 0)
def Mst.okB (m : Mst) : Bool := decide (m.base.kind = 3) && (m.base.okB && (decide (m.name.length ≤ 32) && (!endsNought m.name && (tm m.rev && (decide (m.digest.length = 16) && (u32 m.cost && (m.bridge.okB && (le255 m.hops && (decide (m.insts.length ≤ 64) && m.insts.all Ins.okB)))))))))
structure Mst.Ok (m : Mst) : Prop where
  kind : m.base.kind = 3
  base : m.base.okB = true
  nl : m.name.length ≤ 32
  ne : m.name.getLast? ≠ some 0
  r0 : 0 ≤ m.rev
  r1 : m.rev ≤ 65535
  dg : m.digest.length = 16
  c0 : 0 ≤ m.cost
  c1 : m.cost < 4294967296
  br : m.bridge.okB = true
  h0 : 0 ≤ m.hops
  h1 : m.hops ≤ 255
  il : m.insts.length ≤ 64
  ok : ∀ x ∈ m.insts, x.okB = true
theorem Mst.ok_iff {m : Mst} : m.okB = true ↔ m.Ok := by
  constructor
  · intro h
    simp only [Mst.okB, endsNought, tm, u32, le255, Bool.and_eq_true, decide_eq_true_eq, Bool.not_eq_true', decide_eq_false_iff_not, List.all_eq_true] at h
    obtain ⟨a, b, c, d, ⟨e, f⟩, g, ⟨i, j⟩, k, ⟨l, n⟩, o, p⟩ := h
    exact ⟨a, b, c, d, e, f, g, i, j, k, l, n, o, p⟩
  · rintro ⟨a, b, c, d, e, f, g, i, j, k, l, n, o, p⟩
    simp only [Mst.okB, endsNought, tm, u32, le255, Bool.and_eq_true, decide_eq_true_eq, Bool.not_eq_true', decide_eq_false_iff_not, List.all_eq_true]
    exact ⟨a, b, c, d, ⟨e, f⟩, g, ⟨i, j⟩, k, ⟨l, n⟩, o, p⟩
def headMst : List UInt8 := [0, 0, 3, 2]
def Mst.bytes (m : Mst) : List UInt8 :=
  headMst ++ (m.base.body ++ ([0] ++ (beBytes (64 + 16 * m.insts.length) 2 ++ ([0] ++ ((m.name ++ List.replicate (32 - m.name.length) 0) ++ (beBytes m.rev.toNat 2 ++ (m.digest ++ (beBytes m.cost.toNat 4 ++ (m.bridge.bytes ++ (beBytes m.hops.toNat 1 ++ insBytes m.insts))))))))))
theorem Mst.bytes_len {m : Mst} (h : m.Ok) : m.bytes.length = 102 + 16 * m.insts.length := by
  have := h.nl
  have := h.dg
  simp only [Mst.bytes, headMst, List.length_append, List.length_cons, List.length_nil, Bp.body_len, beBytes_len, Br.bytes_len, insBytes_len, List.length_replicate]
  omega
def readInsM (R : RS) : Ins × RS :=
  let f := numM R 1
  let r := readBrM f.2
  let c := numM r.2 4
  let b := numM c.2 1
  let p := numM b.2 1
  let h := numM p.2 1
  (⟨Fl.of f.1, r.1, c.1, ((b.1 / 16 : Nat) : Int), ((p.1 / 16 : Nat) : Int), h.1⟩, h.2)
def insM : Nat → RS → List Ins → List Ins × RS
  | 0, R, l => (l, R)
  | m + 1, R, l => match R.err with
    | some _ => (l, R)
    | none => insM m (readInsM R).2 (l ++ [(readInsM R).1])
/-- The text without the noughts behind it. -/
def trimN (l : List UInt8) : List UInt8 := (l.reverse.dropWhile (· == (0 : UInt8))).reverse
def lenBad (n : Nat) : Prop := n < 64 ∨ (n - 64) % 16 ≠ 0 ∨ 64 < (n - 64) / 16
instance (n : Nat) : Decidable (lenBad n) := by unfold lenBad; infer_instance
def readMstM (s : List UInt8) : Mst × RS :=
  let R1 := headM (newM s 0) headMst
  let b := readBodyM R1 3
  let n1 := numM b.2 1
  let R2 := if n1.1 ≠ 0 then failM n1.2 3 (b.2.place : Int) else n1.2
  let n2 := numM R2 2
  let R3 := if lenBad n2.1 then failM n2.2 2 (R2.place : Int) else n2.2
  let n3 := numM R3 1
  let R4 := if n3.1 ≠ 0 then failM n3.2 3 (R3.place : Int) else n3.2
  let nm := bytesM R4 32
  let rv := numM nm.2 2
  let dg := bytesM rv.2 16
  let c := numM dg.2 4
  let br := readBrM c.2
  let h := numM br.2 1
  let i := insM ((n2.1 - 64) / 16) h.2 []
  (⟨b.1, trimN nm.1, rv.1, dg.1, c.1, br.1, h.1, i.1⟩, i.2)
theorem trimN_pad (l : List UInt8) (k : Nat) (h : l.getLast? ≠ some 0) : trimN (l ++ List.replicate k 0) = l := by
  unfold trimN
  have h1 : ∀ k (m : List UInt8), ((List.replicate k (0 : UInt8)) ++ m).dropWhile (· == (0 : UInt8)) = m.dropWhile (· == (0 : UInt8)) := by
    intro k m
    induction k with
    | zero => rfl
    | succ k ih => rw [List.replicate_succ, List.cons_append, List.dropWhile_cons_of_pos (by decide)]; exact ih
  rw [List.reverse_append, List.reverse_replicate, h1]
  have h2 : l.reverse.dropWhile (· == (0 : UInt8)) = l.reverse := by
    cases hr : l.reverse with
    | nil => rfl
    | cons a t =>
      rw [List.dropWhile_cons_of_neg]
      intro ha
      apply h
      have : l = t.reverse ++ [a] := by rw [← List.reverse_reverse l, hr, List.reverse_cons]
      rw [this, List.getLast?_append]
      simpa using ha
  rw [h2, List.reverse_reverse]
theorem trimN_end (l : List UInt8) : (trimN l).getLast? ≠ some 0 := by
  unfold trimN
  rw [List.getLast?_reverse]
  intro h
  have : ∀ (m : List UInt8), (m.dropWhile (· == (0 : UInt8))).head? ≠ some 0 := by
    intro m
    induction m with
    | nil => simp
    | cons a t ih =>
      by_cases ha : a = 0
      · subst ha; rw [List.dropWhile_cons_of_pos (by decide)]; exact ih
      · rw [List.dropWhile_cons_of_neg (by simpa using ha)]; simpa using ha
  exact this _ h
theorem trimN_le (l : List UInt8) : (trimN l).length ≤ l.length := by
  unfold trimN
  rw [List.length_reverse]
  have := (List.dropWhile_suffix (· == (0 : UInt8)) (l := l.reverse)).length_le
  simpa using this
theorem RS.ok.ins {R : RS} (h : R.ok) : (readInsM R).2.ok := ((((((h.num 1).br).num 4).num 1).num 1).num 1)
theorem readIns_left {R : RS} {x : Ins} {rest : List UInt8} (hx : x.Ok) (h : R.Left (x.bytes ++ rest)) : ∃ R', readInsM R = (x, R') ∧ R'.Left rest := by
  have g0 : R.Left (beBytes x.fl.byte 1 ++ (x.root.bytes ++ (beBytes x.cost.toNat 4 ++ (beBytes (x.bridge * 16).toNat 1 ++ (beBytes (x.port * 16).toNat 1 ++ (beBytes x.hops.toNat 1 ++ rest)))))) := by
    simpa [Ins.bytes, List.append_assoc] using h
  have := Fl.byte_lt _ hx.fl
  have g1 := g0.skip (beBytes_len _ 1)
  obtain ⟨e1, g2⟩ := readBr_left hx.root g1
  have g3 := g2.skip (beBytes_len _ 4)
  have g4 := g3.skip (beBytes_len _ 1)
  have g5 := g4.skip (beBytes_len _ 1)
  have g6 := g5.skip (beBytes_len _ 1)
  obtain ⟨_, _, c0, c1, b0, b1, p0, p1, h0, h1⟩ := hx
  refine ⟨_, ?_, g6⟩
  unfold readInsM
  simp only [numM_be g0 (show x.fl.byte < 256 ^ 1 by omega), e1, numM_be g2 (show x.cost.toNat < 256 ^ 4 by omega), numM_be g3 (show (x.bridge * 16).toNat < 256 ^ 1 by omega), numM_be g4 (show (x.port * 16).toNat < 256 ^ 1 by omega), numM_be g5 (show x.hops.toNat < 256 ^ 1 by omega), Fl.of_byte _ (by assumption)]
  cases x
  simp only [Prod.mk.injEq, Ins.mk.injEq, and_true, true_and] at *
  omega
theorem insM_left : ∀ (l : List Ins) (R : RS) (a : List Ins) (rest : List UInt8), (∀ x ∈ l, x.okB = true) → R.Left (insBytes l ++ rest) → ∃ R', insM l.length R a = (a ++ l, R') ∧ R'.Left rest
  | [], R, a, rest, _, h => ⟨R, by simp [insM], by simpa [insBytes] using h⟩
  | x :: l, R, a, rest, hk, h => by
    have h0 : R.Left (x.bytes ++ (insBytes l ++ rest)) := by simpa [insBytes, List.append_assoc] using h
    obtain ⟨R1, e1, g1⟩ := readIns_left (Ins.ok_iff.1 (hk x (List.mem_cons_self ..))) h0
    obtain ⟨R2, e2, g2⟩ := insM_left l R1 (a ++ [x]) rest (fun y hy => hk y (List.mem_cons_of_mem _ hy)) g1
    refine ⟨R2, ?_, g2⟩
    show insM (l.length + 1) R a = _
    unfold insM
    rw [h0.none]
    simp only [e1, e2, List.append_assoc, List.singleton_append]
theorem readMst_bytes (m : Mst) (more : List UInt8) (hm : m.okB = true) (hl : (m.bytes ++ more).length ≤ 4611686018427387904) : ∃ R, readMstM (m.bytes ++ more) = (m, R) ∧ R.err = none := by
  have hk := Mst.ok_iff.1 hm
  have g0 : (newM (m.bytes ++ more) 0).Left (headMst ++ (m.base.body ++ ([0] ++ (beBytes (64 + 16 * m.insts.length) 2 ++ ([0] ++ ((m.name ++ List.replicate (32 - m.name.length) 0) ++ (beBytes m.rev.toNat 2 ++ (m.digest ++ (beBytes m.cost.toNat 4 ++ (m.bridge.bytes ++ (beBytes m.hops.toNat 1 ++ (insBytes m.insts ++ more)))))))))))) := by
    have := newM_left (m.bytes ++ more) 0 (by omega)
    simpa [Mst.bytes, List.append_assoc] using this
  have hbase := hk.base
  unfold Bp.okB at hbase
  rw [if_neg (by rw [hk.kind]; decide), if_neg (by rw [hk.kind]; decide), if_pos hk.kind] at hbase
  simp only [Bool.and_eq_true] at hbase
  have il := hk.il
  have g1 := g0.skip rfl
  obtain ⟨Rb, eb, g2⟩ := readBody_left (Bp.rest_iff.1 hbase.2) hbase.1 3 g1
  have e2 : numM Rb 1 = (0, Rb.skip 1) := numM_left g2 rfl
  have g3 := g2.skip (n := 1) rfl
  have e3 := numM_be (n := 2) g3 (show 64 + 16 * m.insts.length < 256 ^ 2 by omega)
  have g4 := g3.skip (beBytes_len _ 2)
  have hnb : ¬ lenBad (64 + 16 * m.insts.length) := by unfold lenBad; omega
  have e4 : numM ((Rb.skip 1).skip 2) 1 = (0, ((Rb.skip 1).skip 2).skip 1) := numM_left g4 rfl
  have g5 := g4.skip (n := 1) rfl
  have hn32 : (m.name ++ List.replicate (32 - m.name.length) 0).length = 32 := by
    have := hk.nl
    rw [List.length_append, List.length_replicate]; omega
  have e5 := bytesM_left g5 hn32
  have g6 := g5.skip hn32
  have e6 := numM_be (n := 2) g6 (show m.rev.toNat < 256 ^ 2 by have := hk.r0; have := hk.r1; omega)
  have g7 := g6.skip (beBytes_len _ 2)
  have e7 := bytesM_left g7 hk.dg
  have g8 := g7.skip hk.dg
  have e8 := numM_be (n := 4) g8 (show m.cost.toNat < 256 ^ 4 by have := hk.c0; have := hk.c1; omega)
  have g9 := g8.skip (beBytes_len _ 4)
  obtain ⟨e9, g10⟩ := readBr_left hk.br g9
  have e10 := numM_be (n := 1) g10 (show m.hops.toNat < 256 ^ 1 by have := hk.h0; have := hk.h1; omega)
  have g11 := g10.skip (beBytes_len _ 1)
  obtain ⟨Ri, e11, g12⟩ := insM_left m.insts _ [] more hk.ok g11
  refine ⟨Ri, ?_, g12.none⟩
  have hdiv : (64 + 16 * m.insts.length - 64) / 16 = m.insts.length := by omega
  have hkd := hk.kind
  unfold readMstM
  simp only [headM_left g0, eb, e2, ne_eq, not_true_eq_false, if_false, e3, if_neg hnb, e4, e5, trimN_pad _ _ hk.ne, e6, e7, e8, e9, e10, hdiv, e11, List.nil_append]
  have h1 := hk.r0; have h2 := hk.c0; have h3 := hk.h0
  have hb3 : ({ m.base with kind := 3 } : Bp) = m.base := by rw [← hkd]
  rw [hb3, Int.toNat_of_nonneg h1, Int.toNat_of_nonneg h2, Int.toNat_of_nonneg h3]
theorem readIns_back {R : RS} (hok : R.ok) (h : (readInsM R).2.err = none) : ∃ c rest, c.length = 16 ∧ R.Left (c ++ rest) ∧ (readInsM R).1.okB = true ∧ (readInsM R).2.Left rest := by
  have hb : ∀ {R : RS} {n : Nat}, (numM R n).2.err = none → R.err = none := fun h => bytesM_err h
  have o1 := hok.num 1
  have o2 := o1.br
  have o3 := o2.num 4
  have o4 := o3.num 1
  have o5 := o4.num 1
  have h6 : (numM (numM (numM (numM (readBrM (numM R 1).2).2 4).2 1).2 1).2 1).2.err = none := h
  have h5 := hb h6
  have h4 := hb h5
  have h3 := hb h4
  have h2 := hb h3
  have h1 : (numM R 1).2.err = none := hb (bytesM_err h2)
  obtain ⟨c1, r1, l1, L1, e1, G1⟩ := numM_back hok h1
  obtain ⟨r2, L2, k2, G2⟩ := readBr_back o1 h2
  obtain ⟨c3, r3, l3, L3, e3, G3⟩ := numM_back o2 h3
  obtain ⟨c4, r4, l4, L4, e4, G4⟩ := numM_back o3 h4
  obtain ⟨c5, r5, l5, L5, e5, G5⟩ := numM_back o4 h5
  obtain ⟨c6, r6, l6, L6, e6, G6⟩ := numM_back o5 h6
  have G1' : (numM R 1).2.Left r1 := by rw [e1]; exact G1
  have G3' : (numM (readBrM (numM R 1).2).2 4).2.Left r3 := by rw [e3]; exact G3
  have G4' : (numM (numM (readBrM (numM R 1).2).2 4).2 1).2.Left r4 := by rw [e4]; exact G4
  have G5' : (numM (numM (numM (readBrM (numM R 1).2).2 4).2 1).2 1).2.Left r5 := by rw [e5]; exact G5
  have G6' : (readInsM R).2.Left r6 := by
    show (numM (numM (numM (numM (readBrM (numM R 1).2).2 4).2 1).2 1).2 1).2.Left r6
    rw [e6]; exact G6
  have q1 : r1 = _ := G1'.left.symm.trans L2.left
  have q2 : r2 = c3 ++ r3 := G2.left.symm.trans L3.left
  have q3 : r3 = c4 ++ r4 := G3'.left.symm.trans L4.left
  have q4 : r4 = c5 ++ r5 := G4'.left.symm.trans L5.left
  have q5 : r5 = c6 ++ r6 := G5'.left.symm.trans L6.left
  have f3 : (numM (readBrM (numM R 1).2).2 4).1 = beNum c3 := by rw [e3]
  have f4 : (numM (numM (readBrM (numM R 1).2).2 4).2 1).1 = beNum c4 := by rw [e4]
  have f5 : (numM (numM (numM (readBrM (numM R 1).2).2 4).2 1).2 1).1 = beNum c5 := by rw [e5]
  have f6 : (numM (numM (numM (numM (readBrM (numM R 1).2).2 4).2 1).2 1).2 1).1 = beNum c6 := by rw [e6]
  have b3 := beNum_lt c3
  have b4 := beNum_lt c4
  have b5 := beNum_lt c5
  have b6 := beNum_lt c6
  rw [l3] at b3
  rw [l4] at b4
  rw [l5] at b5
  rw [l6] at b6
  refine ⟨c1 ++ ((readBrM (numM R 1).2).1.bytes ++ (c3 ++ (c4 ++ (c5 ++ c6)))), r6, ?_, ?_, ?_, G6'⟩
  · simp only [List.length_append, l1, Br.bytes_len, l3, l4, l5, l6]
  · rw [q1, q2, q3, q4, q5] at L1
    simpa [List.append_assoc] using L1
  · rw [Ins.ok_iff]
    refine ⟨Fl.of_ok _, k2, ?_, ?_, ?_, ?_, ?_, ?_, ?_, ?_⟩
    all_goals
      unfold readInsM
      simp only [f3, f4, f5, f6]
      omega
theorem insM_back : ∀ (m : Nat) (R : RS) (l : List Ins), R.ok → (insM m R l).2.err = none → ∃ l' c rest, (insM m R l).1 = l ++ l' ∧ l'.length = m ∧ (∀ x ∈ l', x.okB = true) ∧ c.length = 16 * m ∧ R.Left (c ++ rest)
  | 0, R, l, hok, h => ⟨[], [], R.s.drop R.at_, by simp [insM], rfl, by simp, rfl, ⟨h, hok, rfl⟩⟩
  | m + 1, R, l, hok, h => by
    unfold insM at h ⊢
    cases he : R.err with
    | some x => rw [he] at h; simp only [] at h; rw [he] at h; cases h
    | none =>
      rw [he] at h
      simp only [] at h ⊢
      obtain ⟨l', c', rest', e1, e2, e3, e4, e5⟩ := insM_back m _ _ hok.ins h
      obtain ⟨c, rest, g1, g2, g3, g4⟩ := readIns_back hok e5.none
      have q : rest = c' ++ rest' := g4.left.symm.trans e5.left
      refine ⟨(readInsM R).1 :: l', c ++ c', rest', by rw [e1]; simp, by simp [e2], ?_, ?_, ?_⟩
      · intro x hx
        rcases List.mem_cons.1 hx with rfl | hx
        · exact g3
        · exact e3 x hx
      · rw [List.length_append, g1, e4]; omega
      · rw [q] at g2
        simpa [List.append_assoc] using g2
theorem insM_ok : ∀ (m : Nat) (R : RS) (l : List Ins), R.ok → (insM m R l).2.ok
  | 0, _, _, h => h
  | m + 1, R, l, h => by
    unfold insM
    split
    · exact h
    · exact insM_ok m _ _ h.ins
theorem insM_err : ∀ (m : Nat) (R : RS) (l : List Ins), (insM m R l).2.err = none → R.err = none
  | 0, _, _, h => h
  | m + 1, R, l, h => by
    unfold insM at h
    cases he : R.err with
    | some x => rw [he] at h; simp only [] at h; rw [he] at h; cases h
    | none => rfl
theorem if_fail {c : Prop} [Decidable c] {R : RS} {e p : Int} (h : (if c then failM R e p else R).err = none) : ¬ c ∧ (if c then failM R e p else R) = R := by
  by_cases hc : c
  · rw [if_pos hc] at h; exact (failM_back h).elim
  · exact ⟨hc, if_neg hc⟩
/-- What is read is right, and no longer than the text. -/
theorem readMst_back (s : List UInt8) (hs : s.length ≤ 4611686018427387904) (h : (readMstM s).2.err = none) : (readMstM s).1.okB = true ∧ (readMstM s).1.bytes.length ≤ s.length := by
  have hok : (newM s 0).ok := ⟨Nat.zero_le _, by show 0 + s.length ≤ _; omega⟩
  have hb : ∀ {R : RS} {n : Nat}, (numM R n).2.err = none → R.err = none := fun h => bytesM_err h
  have hbb : ∀ {R : RS} {n : Nat}, (bytesM R n).2.err = none → R.err = none := fun h => bytesM_err h
  obtain ⟨R1, hR1⟩ : ∃ R, headM (newM s 0) headMst = R := ⟨_, rfl⟩
  obtain ⟨b, Rb, hRb⟩ : ∃ b R, readBodyM R1 3 = (b, R) := ⟨_, _, rfl⟩
  obtain ⟨n1, Rn1, hn1⟩ : ∃ n R, numM Rb 1 = (n, R) := ⟨_, _, rfl⟩
  obtain ⟨R2, hR2⟩ : ∃ R, (if n1 ≠ 0 then failM Rn1 3 (Rb.place : Int) else Rn1) = R := ⟨_, rfl⟩
  obtain ⟨n2, Rn2, hn2⟩ : ∃ n R, numM R2 2 = (n, R) := ⟨_, _, rfl⟩
  obtain ⟨R3, hR3⟩ : ∃ R, (if lenBad n2 then failM Rn2 2 (R2.place : Int) else Rn2) = R := ⟨_, rfl⟩
  obtain ⟨n3, Rn3, hn3⟩ : ∃ n R, numM R3 1 = (n, R) := ⟨_, _, rfl⟩
  obtain ⟨R4, hR4⟩ : ∃ R, (if n3 ≠ 0 then failM Rn3 3 (R3.place : Int) else Rn3) = R := ⟨_, rfl⟩
  obtain ⟨nm, R5, hnm⟩ : ∃ n R, bytesM R4 32 = (n, R) := ⟨_, _, rfl⟩
  obtain ⟨rv, R6, hrv⟩ : ∃ n R, numM R5 2 = (n, R) := ⟨_, _, rfl⟩
  obtain ⟨dg, R7, hdg⟩ : ∃ n R, bytesM R6 16 = (n, R) := ⟨_, _, rfl⟩
  obtain ⟨c, R8, hc⟩ : ∃ n R, numM R7 4 = (n, R) := ⟨_, _, rfl⟩
  obtain ⟨br, R9, hbr⟩ : ∃ n R, readBrM R8 = (n, R) := ⟨_, _, rfl⟩
  obtain ⟨ho, R10, hho⟩ : ∃ n R, numM R9 1 = (n, R) := ⟨_, _, rfl⟩
  obtain ⟨il, R11, hil⟩ : ∃ n R, insM ((n2 - 64) / 16) R10 [] = (n, R) := ⟨_, _, rfl⟩
  have hM : readMstM s = (⟨b, trimN nm, rv, dg, c, br, ho, il⟩, R11) := by
    unfold readMstM
    simp only [hR1, hRb, hn1, hR2, hn2, hR3, hn3, hR4, hnm, hrv, hdg, hc, hbr, hho, hil]
  rw [hM] at h ⊢
  simp only [] at h ⊢
  have o1 : R1.ok := by rw [← hR1]; exact hok.head _
  have ob : Rb.ok := by have := o1.body 3; rw [hRb] at this; exact this
  have on1 : Rn1.ok := by have := ob.num 1; rw [hn1] at this; exact this
  have o2 : R2.ok := by rw [← hR2]; split; exact on1.fail _ _; exact on1
  have on2 : Rn2.ok := by have := o2.num 2; rw [hn2] at this; exact this
  have o3 : R3.ok := by rw [← hR3]; split; exact on2.fail _ _; exact on2
  have on3 : Rn3.ok := by have := o3.num 1; rw [hn3] at this; exact this
  have o4 : R4.ok := by rw [← hR4]; split; exact on3.fail _ _; exact on3
  have o5 : R5.ok := by have := o4.bytes 32; rw [hnm] at this; exact this
  have o6 : R6.ok := by have := o5.num 2; rw [hrv] at this; exact this
  have o7 : R7.ok := by have := o6.bytes 16; rw [hdg] at this; exact this
  have o8 : R8.ok := by have := o7.num 4; rw [hc] at this; exact this
  have o9 : R9.ok := by have := o8.br; rw [hbr] at this; exact this
  have o10 : R10.ok := by have := o9.num 1; rw [hho] at this; exact this
  -- errors, backwards
  have z10 : R10.err = none := insM_err _ _ _ (by rw [hil]; exact h)
  have z9 : R9.err = none := hb (n := 1) (by rw [hho]; exact z10)
  have z8 : R8.err = none := hb (hbb (by show (readBrM R8).2.err = none; rw [hbr]; exact z9))
  have z7 : R7.err = none := hb (n := 4) (by rw [hc]; exact z8)
  have z6 : R6.err = none := hbb (n := 16) (by rw [hdg]; exact z7)
  have z5 : R5.err = none := hb (n := 2) (by rw [hrv]; exact z6)
  have z4 : R4.err = none := hbb (n := 32) (by rw [hnm]; exact z5)
  rw [← hR4] at z4
  obtain ⟨p3, e4⟩ := if_fail z4
  have zn3 : Rn3.err = none := by rw [e4] at z4; exact z4
  have hR4' : R4 = Rn3 := by rw [← hR4, e4]
  have z3 : R3.err = none := hb (n := 1) (by rw [hn3]; exact zn3)
  rw [← hR3] at z3
  obtain ⟨p2, e3⟩ := if_fail z3
  have zn2 : Rn2.err = none := by rw [e3] at z3; exact z3
  have hR3' : R3 = Rn2 := by rw [← hR3, e3]
  have z2 : R2.err = none := hb (n := 2) (by rw [hn2]; exact zn2)
  rw [← hR2] at z2
  obtain ⟨p1, e2⟩ := if_fail z2
  have zn1 : Rn1.err = none := by rw [e2] at z2; exact z2
  have hR2' : R2 = Rn1 := by rw [← hR2, e2]
  have zb : Rb.err = none := hb (n := 1) (by rw [hn1]; exact zn1)
  subst hR4' hR3' hR2'
  -- what stood there
  obtain ⟨rB, LB, kB1, kB2, kB3, GB⟩ := readBody_back (R := R1) 3 o1 (by rw [hRb]; exact zb)
  rw [hRb] at LB kB1 kB2 kB3 GB
  simp only [] at LB kB1 kB2 kB3 GB
  obtain ⟨rH, LH, _, GH⟩ := headM_back (R := newM s 0) (want := headMst) hok (by rw [hR1]; exact LB.none)
  have GH' : R1.Left rH := by
    have e := headM_left LH
    rw [hR1] at e
    rw [e]; exact GH
  obtain ⟨c1, r1, l1, L1, x1, G1⟩ := numM_back ob (n := 1) (by rw [hn1]; exact zn1)
  rw [hn1] at x1
  obtain ⟨c2, r2, l2, L2, x2, G2⟩ := numM_back on1 (n := 2) (by rw [hn2]; exact zn2)
  rw [hn2] at x2
  obtain ⟨c3, r3, l3, L3, x3, G3⟩ := numM_back on2 (n := 1) (by rw [hn3]; exact zn3)
  rw [hn3] at x3
  obtain ⟨c4, r4, l4, L4, x4, G4⟩ := bytesM_back on3 (n := 32) (by rw [hnm]; exact z5)
  rw [hnm] at x4
  obtain ⟨c5, r5, l5, L5, x5, G5⟩ := numM_back o5 (n := 2) (by rw [hrv]; exact z6)
  rw [hrv] at x5
  obtain ⟨c6, r6, l6, L6, x6, G6⟩ := bytesM_back o6 (n := 16) (by rw [hdg]; exact z7)
  rw [hdg] at x6
  obtain ⟨c7, r7, l7, L7, x7, G7⟩ := numM_back o7 (n := 4) (by rw [hc]; exact z8)
  rw [hc] at x7
  obtain ⟨r8, L8, k8, G8⟩ := readBr_back o8 (by rw [hbr]; exact z9)
  rw [hbr] at L8 k8 G8
  simp only [] at L8 k8 G8
  obtain ⟨c9, r9, l9, L9, x9, G9⟩ := numM_back o9 (n := 1) (by rw [hho]; exact z10)
  rw [hho] at x9
  obtain ⟨l', c10, r10, e1, e2', e3', e4', L10⟩ := insM_back ((n2 - 64) / 16) R10 [] o10 (by rw [hil]; exact h)
  rw [hil] at e1
  simp only [List.nil_append] at e1
  subst e1
  have G1' : R2.Left r1 := by rw [(Prod.mk.inj x1).2]; exact G1
  have G2' : R3.Left r2 := by rw [(Prod.mk.inj x2).2]; exact G2
  have G3' : R4.Left r3 := by rw [(Prod.mk.inj x3).2]; exact G3
  have G4' : R5.Left r4 := by rw [(Prod.mk.inj x4).2]; exact G4
  have G5' : R6.Left r5 := by rw [(Prod.mk.inj x5).2]; exact G5
  have G6' : R7.Left r6 := by rw [(Prod.mk.inj x6).2]; exact G6
  have G7' : R8.Left r7 := by rw [(Prod.mk.inj x7).2]; exact G7
  have G9' : R10.Left r9 := by rw [(Prod.mk.inj x9).2]; exact G9
  have qH := congrArg List.length (show s = headMst ++ rH from by have := LH.left; simpa [newM] using this)
  have qB := congrArg List.length (GH'.left.symm.trans LB.left)
  have q1 := congrArg List.length (GB.left.symm.trans L1.left)
  have q2 := congrArg List.length (G1'.left.symm.trans L2.left)
  have q3 := congrArg List.length (G2'.left.symm.trans L3.left)
  have q4 := congrArg List.length (G3'.left.symm.trans L4.left)
  have q5 := congrArg List.length (G4'.left.symm.trans L5.left)
  have q6 := congrArg List.length (G5'.left.symm.trans L6.left)
  have q7 := congrArg List.length (G6'.left.symm.trans L7.left)
  have q8 := congrArg List.length (G7'.left.symm.trans L8.left)
  have q9 := congrArg List.length (G8.left.symm.trans L9.left)
  have q10 := congrArg List.length (G9'.left.symm.trans L10.left)
  simp only [List.length_append, Bp.body_len, Br.bytes_len, headMst, List.length_cons, List.length_nil, l1, l2, l3, l4, l5, l6, l7, l9, e4'] at qH qB q1 q2 q3 q4 q5 q6 q7 q8 q9 q10
  have v5 := beNum_lt c5
  have v7 := beNum_lt c7
  have v9 := beNum_lt c9
  rw [l5] at v5
  rw [l7] at v7
  rw [l9] at v9
  have w5 : rv = beNum c5 := (Prod.mk.inj x5).1
  have w7 : c = beNum c7 := (Prod.mk.inj x7).1
  have w9 : ho = beNum c9 := (Prod.mk.inj x9).1
  have w4 : nm = c4 := (Prod.mk.inj x4).1
  have w6 : dg = c6 := (Prod.mk.inj x6).1
  have hok2 : Mst.Ok ⟨b, trimN nm, rv, dg, c, br, ho, il⟩ := by
    refine ⟨kB3, ?_, ?_, trimN_end _, ?_, ?_, ?_, ?_, ?_, k8, ?_, ?_, ?_, e3'⟩
    · show b.okB = true
      unfold Bp.okB
      rw [if_neg (by omega), if_neg (by omega), if_pos kB3, kB2, Bp.rest_iff.2 kB1]; rfl
    · show (trimN nm).length ≤ 32
      have := trimN_le nm
      rw [w4, l4] at this
      rw [w4]; exact this
    · show (0 : Int) ≤ rv; omega
    · show (rv : Int) ≤ 65535; omega
    · show dg.length = 16; rw [w6]; exact l6
    · show (0 : Int) ≤ c; omega
    · show (c : Int) < 4294967296; omega
    · show (0 : Int) ≤ ho; omega
    · show (ho : Int) ≤ 255; omega
    · show il.length ≤ 64
      unfold lenBad at p2
      omega
  refine ⟨Mst.ok_iff.2 hok2, ?_⟩
  rw [Mst.bytes_len hok2]
  show 102 + 16 * il.length ≤ s.length
  omega
end Go.Proofs.YteibhcocldihbaaDoor
namespace Go.Proofs.YteibhcocldihbaaDoor
open Go.RowKit
section
variable {P : Program} {ops : Array Oper} {Q : Exit → Act → World → Prop} {md : Region.Mode} {S : World → Prop} {k : Nat}
def wpAnyG (P : Program) (md : Region.Mode) (ops : Array Oper) (Q : Exit → Act → World → Prop) (S : World → Prop) (k : Nat) : Nat → Array Bool → Act → World → Prop
  | 0, listed, a, w => Region.ready md ops listed = [] ∧ Q .normal a w
  | fuel + 1, listed, a, w =>
    (Region.ready md ops listed = [] → Q .normal a w) ∧
    ∀ i ∈ Region.ready md ops listed, wpOp P ops Q i (fun a' w' => (i ≠ k → S w') ∧ wpAnyG P md ops Q S k fuel (listed.setIfInBounds i true) a' w') a w
theorem wpAny_of_G : ∀ (fuel : Nat) (listed : Array Bool) (a : Act) (w : World), wpAnyG P md ops Q S k fuel listed a w → wpAny P md ops Q fuel listed a w
  | 0, _, _, _, h => h
  | fuel + 1, _, _, _, h => ⟨h.1, fun i hi => wpOp_mono (fun a' w' h' => wpAny_of_G fuel _ a' w' h'.2) (h.2 i hi)⟩
theorem wpAnyG_first {i : Nat} {oi : Oper} {v : Value} (hi : ops[i]? = some oi) (hsel : ∀ (j : Nat) (o : Oper) cs b, ops[j]? = some o → o.op ≠ .select cs b)
    (hQ : ∀ c a w, Q (.panic c) (a.put oi.dst v) w → Q (.panic c) a w) (hs : Region.sinkB md ops k = true) (hc : Region.chainB md ops k = true) (hk : k < ops.size) (hik : i < k) (hk1 : k + 1 = ops.size) :
    ∀ (fuel : Nat) (listed : Array Bool) (a : Act) (w : World), HeadInv md ops k listed →
      (∀ j oj, ops[j]? = some oj → j ≠ i → listed.getD j true = false → (∀ e ∈ oj.after, Region.binds md e = true → e.on ≠ i) → oi.apart ops oj = true) →
      i ∈ Region.ready md ops listed → YieldsIf P ops S oi v a → S w →
      wpAnyG P md ops Q S k fuel (listed.setIfInBounds i true) (a.put oi.dst v) w → wpAnyG P md ops Q S k (fuel + 1) listed a w := by
  intro fuel
  induction fuel with
  | zero =>
    intro listed a w _ _ hr hy hS H
    refine ⟨fun h => (by rw [h] at hr; cases hr), fun j hj => ?_⟩
    by_cases hji : j = i
    · subst hji; exact hy.wpOp hi hS ⟨fun _ => hS, H⟩
    · have := ready_mono hj hji
      rw [H.1] at this
      cases this
  | succ fuel ih =>
    intro listed a w inv hfree hr hy hS H
    refine ⟨fun h => (by rw [h] at hr; cases hr), fun j hj => ?_⟩
    by_cases hji : j = i
    · subst hji; exact hy.wpOp hi hS ⟨fun _ => hS, H⟩
    · have h1 := H.2 j (ready_mono hj hji)
      obtain ⟨hjun, oj, hoj, hall⟩ := mem_ready.1 hj
      have hjlt : j < ops.size := (Array.getElem?_eq_some_iff.1 hoj).1
      have hjk : j < k := by
        rcases Nat.lt_or_ge j k with h | h
        · exact h
        · exact absurd hj (tail_waits hs hc hk inv _ i rfl hik (mem_ready.1 hr).1 j h)
      have hnot : ∀ e ∈ oj.after, Region.binds md e = true → e.on ≠ i := fun e he hb heq => by
        have h1 := hall e he hb
        have h0 := (mem_ready.1 hr).1
        rw [heq] at h1
        rcases Nat.lt_or_ge i listed.size with h' | h'
        · simp [h'] at h0 h1; rw [h0] at h1; cases h1
        · simp [Array.getElem?_eq_none h'] at h1
      have h2 := wpOp_putIf hoj (hfree j oj hoj hji hjun hnot) (fun cs b => hsel i oi cs b hi) (fun cs b => hsel j oj cs b hoj) hQ hy h1
      have hfree' : ∀ k ok, ops[k]? = some ok → k ≠ i → (listed.setIfInBounds j true).getD k true = false →
          (∀ e ∈ ok.after, Region.binds md e = true → e.on ≠ i) → oi.apart ops ok = true := fun k ok hk hki hun hno => by
        refine hfree k ok hk hki ?_ hno
        by_cases hjk : j = k
        · subst hjk; exact hjun
        · rw [getD_set_ne true hjk] at hun; exact hun
      refine wpOp_mono (fun a' w' h3 => ⟨h3.2.1, ih (listed.setIfInBounds j true) a' w' (inv.set hj hjk) hfree' (ready_mono hr (Ne.symm hji)) h3.1 (h3.2.1 (by omega)) ?_⟩) h2
      rw [Array.setIfInBounds_comm _ _ hji]
      exact h3.2.2
/-- What is to be checked once of a region. -/
def lastB (md : Region.Mode) (ops : Array Oper) (k : Nat) : Bool := Region.noSelect ops && (decide (k + 1 = ops.size) && (Region.sinkB md ops k && Region.chainB md ops k))
/-- What is to be checked of the operations that have come up. -/
def closedB (md : Region.Mode) (ops : Array Oper) (k : Nat) (listed : Array Bool) : Bool :=
  decide (listed.size = ops.size) && (!listed.getD k true && (List.range ops.size).all fun j => !listed.getD j false || ((ops[j]?).map fun o => o.after.all fun e => !Region.binds md e || listed.getD e.on false).getD true)
theorem closed_inv {listed : Array Bool} (hk1 : k + 1 = ops.size) (h : closedB md ops k listed = true) : HeadInv md ops k listed := by
  simp only [closedB, Bool.and_eq_true, decide_eq_true_eq, Bool.not_eq_true', List.all_eq_true] at h
  obtain ⟨h1, h2, h3⟩ := h
  refine ⟨h1, fun j oj hj hl e he hb => ?_, fun t ht htl => ?_⟩
  · have hlt : j < ops.size := (Array.getElem?_eq_some_iff.1 hj).1
    have h4 := h3 j (List.mem_range.2 hlt)
    rw [hl, hj] at h4
    simp only [Bool.not_true, Bool.false_or, Option.map_some, Option.getD_some, Array.all_eq_true_iff_forall_mem, Bool.or_eq_true, Bool.not_eq_true'] at h4
    rcases h4 e he with h5 | h5
    · rw [hb] at h5; cases h5
    · exact h5
  · obtain rfl : t = k := by omega
    exact h2
theorem wp_region_last {id : Nat} {a : Act} {w : World} (S : World → Prop) (k : Nat) (hm : P.follows .mixedOrders = true) (hS : S w.drew)
    (h : S w.drew → wpAnyG P .any ops Q S k ops.size (Array.replicate ops.size false) a w.drew) : (Code.region id ops true).wp P Q a w :=
  wp_region_any hm (wpAny_of_G _ _ _ _ (h hS))
theorem wpAnyG_take {fuel : Nat} {listed : Array Bool} {a : Act} {w : World} (i : Nat) {oi : Oper} (v : Value) (hi : ops[i]? = some oi) (hL : lastB md ops k = true) (hC : closedB md ops k listed = true) (hik : i < k)
    (hf : Region.free md ops listed i = true) (hr : (Region.ready md ops listed).contains i = true) (hQ : ∀ c a w, Q (.panic c) (a.put oi.dst v) w → Q (.panic c) a w)
    (hgd : oi.guard = none) (hy : ∀ w, S w → (execOp a.eval oi).run P w = .ok (.value v) w) (hS : S w)
    (h : wpAnyG P md ops Q S k fuel (listed.setIfInBounds i true) (a.put oi.dst v) w) : wpAnyG P md ops Q S k (fuel + 1) listed a w := by
  simp only [lastB, Bool.and_eq_true, decide_eq_true_eq] at hL
  obtain ⟨h1, h2, h3, h4⟩ := hL
  exact wpAnyG_first hi (Region.noSelect_spec h1) hQ h3 h4 (by omega) hik h2 fuel listed a w (closed_inv h2 hC) (Region.free_spec hi hf) (by simpa using hr) (.inl ⟨by simp [Region.wanted, hgd], hy⟩) hS h
theorem wpAnyG_one {fuel : Nat} {listed : Array Bool} {a : Act} {w : World} (i : Nat) {o : Oper} (hr : Region.ready md ops listed = [i]) (ho : ops[i]? = some o) (hgd : o.guard = none)
    (h : ∀ K' : Act → World → Prop, Shut (∀ a w, (i ≠ k → S w) → ((i ≠ k → S w) → wpAnyG P md ops Q S k fuel (listed.setIfInBounds i true) a w) → K' a w) → Oper.wp P o a w K' Q) :
    wpAnyG P md ops Q S k (fuel + 1) listed a w := by
  refine ⟨fun h0 => (by rw [hr] at h0; cases h0), fun j hj => ?_⟩
  rw [hr, List.mem_singleton] at hj
  subst hj
  unfold wpOp
  simp only [ho]
  rw [if_pos (by simp [Region.wanted, hgd])]
  exact .inl (h _ (fun a w h1 h2 => ⟨h1, h2 h1⟩))
theorem wpAnyG_done {listed : Array Bool} {a : Act} {w : World} (hr : Region.ready md ops listed = []) (h : Q .normal a w) : ∀ fuel, wpAnyG P md ops Q S k fuel listed a w
  | 0 => ⟨hr, h⟩
  | _ + 1 => ⟨fun _ => h, by rw [hr]; simp⟩
/-- A whole load, as an operation is run. -/
theorem exec_load_rng {P : Program} {a : Act} {d : Option Tmp} {ty : TypeId} {p : Tmp} {t' : TypeId} {pos : String} {after : Array Edge} {gd : Option (Nat × Bool)} {b off : Nat} {ds : TypeDesc} {w : World} (L : List Value)
    (hx : a.eval (.tmp p) = .pointer (some ⟨b, off, none⟩)) (hr : w.rangeAt b off L) (hu : P.underlying ty = some ds) (hd : ds.isRow = true) (hi : (P.info? ty).map (·.size) = some L.length) :
    (execOp a.eval ⟨d, .load ty (.tmp p), t', pos, after, gd⟩).run P w = .ok (.value (.agg L.toArray)) w := by
  unfold execOp
  simp only [hx, Instr.loadAt, Instr.sureAddr, Sem.run_bind, Sem.run_pure, Result.andThen_ok, run_loadVar_mid w b off ty L ds hr hu hd hi]
end
end Go.Proofs.YteibhcocldihbaaDoor
namespace Go.Proofs.YteibhcocldihbaaDoor
open Go.RowKit
section
variable {P : Program} {ops : Array Oper} {Q : Exit → Act → World → Prop} {md : Region.Mode} {S : World → Prop} {k : Nat}
theorem wpAnyG_takeG {fuel : Nat} {listed : Array Bool} {a : Act} {w : World} (i : Nat) {oi : Oper} (v : Value) (hi : ops[i]? = some oi) (hL : lastB md ops k = true) (hC : closedB md ops k listed = true) (hik : i < k)
    (hf : Region.free md ops listed i = true) (hr : (Region.ready md ops listed).contains i = true) (hQ : ∀ c a w, Q (.panic c) (a.put oi.dst v) w → Q (.panic c) a w)
    (hgd : Region.wanted oi (yielded ops a.tmps) = true) (hy : ∀ w, S w → (execOp a.eval oi).run P w = .ok (.value v) w) (hS : S w)
    (h : wpAnyG P md ops Q S k fuel (listed.setIfInBounds i true) (a.put oi.dst v) w) : wpAnyG P md ops Q S k (fuel + 1) listed a w := by
  simp only [lastB, Bool.and_eq_true, decide_eq_true_eq] at hL
  obtain ⟨h1, h2, h3, h4⟩ := hL
  exact wpAnyG_first hi (Region.noSelect_spec h1) hQ h3 h4 (by omega) hik h2 fuel listed a w (closed_inv h2 hC) (Region.free_spec hi hf) (by simpa using hr) (.inl ⟨hgd, hy⟩) hS h
/-- An operation whose guard does not let it run. -/
theorem wpAnyG_skip {fuel : Nat} {listed : Array Bool} {a : Act} {w : World} (i : Nat) {oi : Oper} (hi : ops[i]? = some oi) (hL : lastB md ops k = true) (hC : closedB md ops k listed = true) (hik : i < k)
    (hf : Region.free md ops listed i = true) (hr : (Region.ready md ops listed).contains i = true) (hQ : ∀ c a w, Q (.panic c) (a.put oi.dst undef) w → Q (.panic c) a w)
    (hgd : Region.wanted oi (yielded ops a.tmps) = false) (hS : S w)
    (h : wpAnyG P md ops Q S k fuel (listed.setIfInBounds i true) (a.put oi.dst undef) w) : wpAnyG P md ops Q S k (fuel + 1) listed a w := by
  simp only [lastB, Bool.and_eq_true, decide_eq_true_eq] at hL
  obtain ⟨h1, h2, h3, h4⟩ := hL
  exact wpAnyG_first hi (Region.noSelect_spec h1) hQ h3 h4 (by omega) hik h2 fuel listed a w (closed_inv h2 hC) (Region.free_spec hi hf) (by simpa using hr) (.inr ⟨hgd, rfl⟩) hS h
theorem wpAnyG_oneG {fuel : Nat} {listed : Array Bool} {a : Act} {w : World} (i : Nat) {o : Oper} (hr : Region.ready md ops listed = [i]) (ho : ops[i]? = some o) (hgd : Region.wanted o (yielded ops a.tmps) = true)
    (h : ∀ K' : Act → World → Prop, Shut (∀ a w, (i ≠ k → S w) → ((i ≠ k → S w) → wpAnyG P md ops Q S k fuel (listed.setIfInBounds i true) a w) → K' a w) → Oper.wp P o a w K' Q) :
    wpAnyG P md ops Q S k (fuel + 1) listed a w := by
  refine ⟨fun h0 => (by rw [hr] at h0; cases h0), fun j hj => ?_⟩
  rw [hr, List.mem_singleton] at hj
  subst hj
  unfold wpOp
  simp only [ho]
  rw [if_pos hgd]
  exact .inl (h _ (fun a w h1 h2 => ⟨h1, h2 h1⟩))
end
/-- A load of a row of cells behind a guard that lets it run. -/
theorem wpList_load_rngG {P : Program} {ops : Array Oper} {rest : List Oper} {d : Tmp} {ty : TypeId} {p : Tmp} {t' : TypeId} {pos : String} {after : Array Edge} {gd : Option (Nat × Bool)} {a : Act} {w : World} {Q : Exit → Act → World → Prop} {b o : Nat} {ds : TypeDesc} (L : List Value)
    (hg : Region.wanted ⟨some d, .load ty (.tmp p), t', pos, after, gd⟩ (yielded ops a.tmps) = true) (hx : a.eval (.tmp p) = .pointer (some ⟨b, o, none⟩)) (hB : w.rangeAt b o L) (hu : P.underlying ty = some ds) (hd : ds.isRow = true) (hi : (P.info? ty).map (·.size) = some L.length)
    (h : wpList P ops Q rest (a.put (some d) (.agg L.toArray)) w) :
    wpList P ops Q (⟨some d, .load ty (.tmp p), t', pos, after, gd⟩ :: rest) a w :=
  wpList_step fun K hK => by
    rw [if_pos hg]
    exact wp_load_mid ty (.tmp p) rfl b o hx L ds hB hu hd hi (hK _ _ h)
end Go.Proofs.YteibhcocldihbaaDoor
namespace Go.Proofs.YteibhcocldihbaaDoor
open Go.RowKit
def Pty.vals (p : Pty) : List Value := .int .i64 p.sp :: (p.sys.vals ++ [.int .i64 p.key, .int .i64 p.pp, .int .i64 p.port, .int .i64 p.st])
def Lac.vals (l : Lac) : List Value := l.ac.vals ++ (l.pa.vals ++ [.int .i64 l.delay])
theorem Pty.len (p : Pty) : p.vals.length = 11 := rfl
theorem Lac.len (l : Lac) : l.vals.length = 23 := rfl
theorem Pty.one (p : Pty) : ∀ v ∈ p.vals, v.oneCell' = true := fun v hv => by
  simp only [Pty.vals, Ad.vals, List.cons_append, List.nil_append, List.mem_cons, List.not_mem_nil, or_false] at hv
  rcases hv with rfl | rfl | rfl | rfl | rfl | rfl | rfl | rfl | rfl | rfl | rfl <;> rfl
theorem Lac.one (l : Lac) : ∀ v ∈ l.vals, v.oneCell' = true := fun v hv => by
  simp only [Lac.vals, List.mem_append, List.mem_cons, List.not_mem_nil, or_false] at hv
  rcases hv with hv | hv | rfl
  · exact Pty.one _ v hv
  · exact Pty.one _ v hv
  · rfl
theorem info83 : (Tryd.prog.info? 83).map (·.size) = some 11 := by kernel_rfl
theorem info85 : (Tryd.prog.info? 85).map (·.size) = some 23 := by kernel_rfl
set_option maxRecDepth 100000 in
set_option maxHeartbeats 1000000 in
theorem short_any (l : List Int) (g cap n : Nat) (hn : l.length = n) (hm : n ≤ 100) (w : World) (h : ∀ i (hi : i < l.length), w.cell? ⟨g, i, none⟩ = some (.int .i64 l[i])) :
    Calls Tryd.prog 45 #[.slice (some ⟨g, 0, none⟩) n cap] w fun e w' => e = .returned (.bool (l.all sh)) ∧ w = w' := by
  have H := Lib.hid h
  have Hn := Lib.hid hn
  clear h hn
  go_enter Tryd.func45, Tryd.ntmps45
  go_wp2_with fail
  go_loop [7] (fun i => ∃ k : Nat, k ≤ n ∧ i = .int .i64 k ∧ Hid (∀ j (hj : j < l.length), j < k → sh l[j] = true)) (fun i => n - (intOf i).toNat)
  case atStart => exact ⟨0, by omega, rfl, Lib.hid (fun j _ h => by omega)⟩
  case round =>
    obtain ⟨k, hk, rfl, HA⟩ := hrel
    by_cases hlt : k < n
    · have hkl : k < l.length := by rw [Hn.out]; exact hlt
      have hc := H.out k hkl
      have Hs : Hid (∀ x, l[k] = x → sh x = true → ∀ j (hj : j < l.length), j < k + 1 → sh l[j] = true) := Lib.hid (fun x hx hs j hj hjk => by
        by_cases e : j = k
        · subst e; rw [hx]; exact hs
        · exact HA.out j hj (by omega))
      have Ha : Hid (∀ x, l[k] = x → sh x = false → l.all sh = false) := Lib.hid (fun x hx hs => by
        rw [List.all_eq_false]
        exact ⟨l[k], List.getElem_mem hkl, by rw [hx, hs]; exact Bool.false_ne_true⟩)
      generalize hx : l[k] = x at hc
      have Hx := Lib.hid hx
      clear hx
      by_cases h0 : x < 0
      · go_wp2_with fail
        go_ret
        exact ⟨by rw [Ha.out x Hx.out (by simp [sh]; omega)]; rfl, rfl⟩
      · by_cases h1 : 65535 < x
        · go_wp2_with fail
          go_ret
          exact ⟨by rw [Ha.out x Hx.out (by simp [sh]; omega)]; rfl, rfl⟩
        · go_wp2_with fail
          go_round
          case rel => exact ⟨k + 1, by omega, by go_num, Lib.hid (Hs.out x Hx.out (by simp [sh]; omega))⟩
          case measure => simp [intOf]; omega
    · go_wp2_with fail
      go_ret
      exact ⟨by rw [List.all_eq_true.2 (fun x hx => by
        obtain ⟨j, hj, rfl⟩ := List.getElem_of_mem hx
        exact HA.out j hj (by have := Hn.out; omega))]; rfl, rfl⟩
theorem four_cells {w : World} {g : Nat} (a b c d : Int) {t : TypeId} (hg : w.heap.size = g) :
    ∀ i (hi : i < [a, b, c, d].length), (w.alloc (.cells #[.int .i64 a, .int .i64 b, .int .i64 c, .int .i64 d] t)).cell? ⟨g, i, none⟩ = some (.int .i64 [a, b, c, d][i]) := by
  subst hg
  intro i hi
  rw [World.cell?_alloc_mark]
  match i, hi with
  | 0, _ | 1, _ | 2, _ | 3, _ => rfl
theorem one_cell {w : World} {g : Nat} (a : Int) {t : TypeId} (hg : w.heap.size = g) :
    ∀ i (hi : i < [a].length), (w.alloc (.cells #[.int .i64 a] t)).cell? ⟨g, i, none⟩ = some (.int .i64 [a][i]) := by
  subst hg
  intro i hi
  rw [World.cell?_alloc_mark]
  match i, hi with
  | 0, _ => rfl
set_option maxRecDepth 100000 in
set_option maxHeartbeats 1000000 in
theorem party_any (p : Pty) (w : World) :
    Calls Tryd.prog 132 #[.agg p.vals.toArray] w fun e w' => e = .returned (.bool p.okB) ∧ Below w.heap.size w w' := by
  have hE : p.okB = ([p.sp, p.key, p.pp, p.port].all sh && (decide (0 ≤ p.st) && decide (p.st ≤ 255))) := by simp [Pty.okB, Bool.and_assoc]
  rw [hE]
  clear hE
  obtain ⟨sp, ⟨a, b, c, d, e, f⟩, key, pp, port, st⟩ := p
  simp only [Pty.vals, Ad.vals, List.cons_append, List.nil_append]
  cases hS : [sp, key, pp, port].all sh with
  | false =>
    have HS := Lib.hid hS
    clear hS
    go_enter Tryd.func132, Tryd.ntmps132
    go_wp2_with (first
      | ((with_reducible refine (short_any [sp, key, pp, port] _ _ 4 rfl (by decide) _ (four_cells sp key pp port (by simp))).mono ?_); rintro e w1 ⟨rfl, rfl⟩; rw [HS.out]))
    go_ret
    exact ⟨rfl, by go_grown⟩
  | true =>
    have HS := Lib.hid hS
    clear hS
    by_cases h0 : 0 ≤ st
    all_goals by_cases h1 : st ≤ 255
    all_goals first
      | (exfalso; omega)
      | skip
    all_goals
      go_enter Tryd.func132, Tryd.ntmps132
      go_wp2_with (first
        | ((with_reducible refine (short_any [sp, key, pp, port] _ _ 4 rfl (by decide) _ (four_cells sp key pp port (by simp))).mono ?_); rintro e w1 ⟨rfl, rfl⟩; rw [HS.out]))
      go_ret
      exact ⟨by simp [h0, h1], by go_grown⟩
theorem lac_rng {w : World} {g : Nat} {l : Lac} (h : Box w g l.vals) : w.rangeAt g 0 l.ac.vals ∧ w.rangeAt g 11 l.pa.vals ∧ w.cell? ⟨g, 22, none⟩ = some (.int .i64 l.delay) := by
  have h1 := h.range
  refine ⟨fun i v hi => ?_, fun i v hi => ?_, h.cell 22⟩
  · refine h1 i v ?_
    show (l.ac.vals ++ _)[i]? = some v
    rw [List.getElem?_append_left (List.getElem?_eq_some_iff.1 hi).1]; exact hi
  · have := h1 (11 + i) v (by
      show (l.ac.vals ++ (l.pa.vals ++ _))[11 + i]? = some v
      rw [List.getElem?_append_right (by rw [Pty.len]; omega), Pty.len, Nat.add_sub_cancel_left, List.getElem?_append_left (List.getElem?_eq_some_iff.1 hi).1]; exact hi)
    simpa using this
set_option maxRecDepth 100000 in
set_option maxHeartbeats 1000000 in
theorem lacRight_go (l : Lac) (w : World) (x y z : Bool) (Hx : Hid (l.ac.okB = x)) (Hy : Hid (l.pa.okB = y)) (Hz : Hid ([l.delay].all sh = z)) : Calls Tryd.prog 104 #[.agg l.vals.toArray] w fun e w' => e = .returned (.bool (x && (y && z))) ∧ Below w.heap.size w w' := by
  have HB := Lib.hid (Box.new w l.vals 85)
  have hb0 : Below w.heap.size w (w.alloc (.cells l.vals.toArray 85)) := (Below.refl _ _).alloc (Nat.le_refl _) _
  have hl0 : w.heap.size < (w.alloc (.cells l.vals.toArray 85)).heap.size := by simp
  cases x
  · go_enter Tryd.func104, Tryd.ntmps104
    go_upto_region 1 with (fail)
    generalize w.alloc (.cells l.vals.toArray 85) = W0 at *
    go_wp2_with (first
      | (with_reducible refine wpList_load_rng (ty := 83) l.ac.vals (by with_unfolding_all rfl) (lac_rng HB.out).1 Tryd.underlying83 (by with_unfolding_all rfl) (by with_unfolding_all exact info83) ?_)
      | ((with_reducible refine (party_any l.ac _).mono ?_)
         rintro e w1 ⟨rfl, hb1⟩
         rw [Hx.out]))
    go_ret
    exact ⟨rfl, hb0.trans (hb1.mono hb0.size)⟩
  · cases y
    · go_enter Tryd.func104, Tryd.ntmps104
      go_upto_region 1 with (fail)
      generalize w.alloc (.cells l.vals.toArray 85) = W0 at *
      go_wp2_with (first
        | (with_reducible refine wpList_load_rng (ty := 83) l.ac.vals (by with_unfolding_all rfl) (lac_rng HB.out).1 Tryd.underlying83 (by with_unfolding_all rfl) (by with_unfolding_all exact info83) ?_)
        | (with_reducible refine wpList_load_rngG (ty := 83) l.pa.vals (by with_unfolding_all rfl) (by with_unfolding_all rfl) (lac_rng HB1.out).2.1 Tryd.underlying83 (by with_unfolding_all rfl) (by with_unfolding_all exact info83) ?_)
        | ((with_reducible refine (party_any l.ac W0).mono ?_)
           rintro e w1 ⟨rfl, hb1⟩
           rw [Hx.out]
           have HB1 := Lib.hid (HB.out.below hb1 hl0))
        | ((with_reducible refine (party_any l.pa _).mono ?_)
           rintro e w2 ⟨rfl, hb2⟩
           rw [Hy.out]))
      go_ret
      exact ⟨rfl, (hb0.trans (hb1.mono hb0.size)).trans (hb2.mono (Nat.le_trans hb0.size hb1.size))⟩
    · cases z
      all_goals
        go_enter Tryd.func104, Tryd.ntmps104
        go_upto_region 1 with (fail)
        generalize w.alloc (.cells l.vals.toArray 85) = W0 at *
        go_wp2_with (first
          | (with_reducible refine wpList_load_rng (ty := 83) l.ac.vals (by with_unfolding_all rfl) (lac_rng HB.out).1 Tryd.underlying83 (by with_unfolding_all rfl) (by with_unfolding_all exact info83) ?_)
          | (with_reducible refine wpList_load_rngG (ty := 83) l.pa.vals (by with_unfolding_all rfl) (by with_unfolding_all rfl) (lac_rng HB1.out).2.1 Tryd.underlying83 (by with_unfolding_all rfl) (by with_unfolding_all exact info83) ?_)
          | ((with_reducible refine (party_any l.ac W0).mono ?_)
             rintro e w1 ⟨rfl, hb1⟩
             rw [Hx.out]
             have HB1 := Lib.hid (HB.out.below hb1 hl0))
          | ((with_reducible refine (party_any l.pa _).mono ?_)
             rintro e w2 ⟨rfl, hb2⟩
             rw [Hy.out]
             have HB2 := Lib.hid (HB1.out.below hb2 (Nat.lt_of_lt_of_le hl0 hb1.size))
             have c22 := (lac_rng HB2.out).2.2)
          | ((with_reducible refine (short_any [l.delay] _ _ 1 rfl (by decide) _ (one_cell l.delay rfl)).mono ?_)
             rintro e w3 ⟨rfl, rfl⟩
             rw [Hz.out]))
        go_ret
        exact ⟨rfl, ((hb0.trans (hb1.mono hb0.size)).trans (hb2.mono (Nat.le_trans hb0.size hb1.size))).alloc (Nat.le_trans hb0.size (Nat.le_trans hb1.size hb2.size)) _⟩
theorem lacRight_any (l : Lac) (w : World) : Calls Tryd.prog 104 #[.agg l.vals.toArray] w fun e w' => e = .returned (.bool l.okB) ∧ Below w.heap.size w w' := by
  have hE : l.okB = (l.ac.okB && (l.pa.okB && [l.delay].all sh)) := by simp [Lac.okB, Bool.and_assoc]
  rw [hE]
  exact lacRight_go l w _ _ _ (Lib.hid rfl) (Lib.hid rfl) (Lib.hid rfl)
end Go.Proofs.YteibhcocldihbaaDoor
namespace Go.Proofs.YteibhcocldihbaaDoor
open Go.RowKit
theorem info_u8 : (Tryd.prog.info? 5).map (fun i => (i.zero, i.size, i.bytes)) = some (some (.int .u8 0), 1, 1) := by kernel_rfl
theorem put_range (x : Nat) (n : Int) (hn : n < 1 ∨ 8 < n) (w : World) :
    Calls Tryd.prog 107 #[.int .u64 (x : Int), .int .i64 n] w fun e w' => e = .returned (.tuple #[.string ⟨#[]⟩, .iface 32 (.int .i64 2)]) ∧ Below w.heap.size w w' := by
  rcases hn with hn | hn
  all_goals
    go_enter Tryd.func107, Tryd.ntmps107
    go_wp2_with fail
    go_ret2
    exact ⟨rfl, Below.refl _ _⟩
theorem put_full (x n : Nat) (h1 : 1 ≤ n) (h8 : n < 8) (hx : x / 2 ^ (8 * n) ≠ 0) (w : World) :
    Calls Tryd.prog 107 #[.int .u64 (x : Int), .int .i64 (n : Int)] w fun e w' => e = .returned (.tuple #[.string ⟨#[]⟩, .iface 32 (.int .i64 12)]) ∧ Below w.heap.size w w' := by
  have hne : (((x : Int) / 2 ^ (8 * n)) != 0) = true := by
    rw [bne_iff_ne]
    intro h
    apply hx
    have : ((x / 2 ^ (8 * n) : Nat) : Int) = 0 := by simpa using h
    omega
  go_enter Tryd.func107, Tryd.ntmps107
  go_wp2_with fail
  go_ret2
  exact ⟨rfl, Below.refl _ _⟩
set_option maxRecDepth 100000 in
set_option maxHeartbeats 400000 in
theorem put_ok (x n : Nat) (hx64 : x < 18446744073709551616) (h1 : 1 ≤ n) (h8 : n ≤ 8) (hx : x < 256 ^ n) (w : World) :
    Calls Tryd.prog 107 #[.int .u64 (x : Int), .int .i64 (n : Int)] w fun e w' => e = .returned (.tuple #[.string ⟨(beBytes x n).toArray⟩, .nilIface]) ∧ Below w.heap.size w w' := by
  obtain ⟨w2, hmk, hb2, hz2, hx2⟩ := make_bytes (P := Tryd.prog) 90 5 Tryd.underlying90 info_u8 .i64 .i64 n (by omega) w
  have Hx2 := Lib.hid hx2
  have hne : n < 8 → (((x : Int) / 2 ^ (8 * n)) != 0) = false := by
    intro _
    have h0 : x / 2 ^ (8 * n) = 0 := by
      rw [Nat.pow_mul]
      exact Nat.div_eq_of_lt hx
    have : ((x / 2 ^ (8 * n) : Nat) : Int) = 0 := by omega
    simpa using this
  have Hx := Lib.hid hx
  clear hx2 hx
  have hcase : n = 8 ∨ n < 8 := by omega
  have main : Calls Tryd.prog 107 #[.int .u64 (x : Int), .int .i64 (n : Int)] w fun e w' => e = .returned (.tuple #[.string ⟨(beBytes x n).toArray⟩, .nilIface]) ∧ Below w.heap.size w w' := by
    by_cases hn8 : n < 8
    all_goals
      first | have hne' := hne hn8 | skip
      have Hne := Lib.hid hne
      clear hne
      go_enter Tryd.func107, Tryd.ntmps107
      go_wp2_with fail
      go_loopw [29] (fun i wr => ∃ (k : Nat) (L : List UInt8), k ≤ n ∧ i = .int .i64 k ∧ Hid (L.length = n) ∧ Hid (L.drop (n - k) = (beBytes x n).drop (n - k)) ∧ Hid (BytesAt wr w.heap.size L) ∧ Below w.heap.size w wr) (fun i _ => n - (intOf i).toNat)
      case atStart => exact ⟨0, List.replicate n 0, by omega, rfl, by simp [Hid], by simp [Hid, beBytes_len], Hx2, hb2⟩
      case round =>
        obtain ⟨k, L, hk, rfl, HL, HT, HX, hbr⟩ := hrel
        by_cases hlt : k < n
        · have hst := beBytes_step x n k L HL.out hlt HT.out
          have hv : ((x : Int) / 2 ^ (8 * k) % 256) = ((UInt8.ofNat (x / 2 ^ (8 * k) % 256)).toNat : Int) := by
            rw [UInt8.toNat_ofNat']; simp
          generalize UInt8.ofNat (x / 2 ^ (8 * k) % 256) = r at hv hst
          have Hst := Lib.hid hst
          obtain ⟨hcell, hfr⟩ := HX.out (n - 1 - k) (by rw [HL.out]; omega)
          generalize L[n - 1 - k]'(by rw [HL.out]; omega) = c at hcell
          clear hst
          go_wp2_with fail
          go_roundw
          case rel => exact ⟨k + 1, L.set (n - 1 - k) r, by omega, by go_num, by simp [Hid, HL.out], Hst, BytesAt.set HX.out _ _, hbr.setCell (Nat.le_refl _) _⟩
          case measure => simp [intOf]; omega
        · have hkn : k = n := by omega
          have hL : L = beBytes x n := by
            have := HT.out
            rw [hkn, Nat.sub_self] at this
            simpa using this
          have hcv := conv_row (P := Tryd.prog) HX.out 90 9 5 n Tryd.underlying90 Tryd.underlying5 Tryd.underlying9
          rw [HL.out, hL] at hcv
          have Hk := Lib.hid hkn
          clear hkn hL
          go_wp2_with fail
          go_ret2
          exact ⟨rfl, hbr⟩
  exact main
end Go.Proofs.YteibhcocldihbaaDoor
namespace Go.Proofs.YteibhcocldihbaaDoor
open Go.RowKit
theorem bytesLess_num : ∀ (a b : List UInt8), a.length = b.length → Op.bytesLess a b = decide (beNum a < beNum b)
  | [], [], _ => by simp [Op.bytesLess, beNum]
  | x :: a, y :: b, h => by
    have hl : a.length = b.length := by simpa using h
    have ih := bytesLess_num a b hl
    have ha := beNum_lt a
    have hb := beNum_lt b
    rw [hl] at ha
    rw [Op.bytesLess, ih, beNum_cons, beNum_cons, hl]
    generalize 256 ^ b.length = k at *
    by_cases h1 : x < y
    · have h1' : x.toNat + 1 ≤ y.toNat := UInt8.lt_iff_toNat_lt.1 h1
      have := Nat.mul_le_mul_right k h1'
      rw [Nat.add_mul] at this
      simp [h1]; omega
    · by_cases h2 : x = y
      · subst h2
        simp
      · have h3 : ¬ x.toNat < y.toNat := fun h => h1 (UInt8.lt_iff_toNat_lt.2 h)
        have h4 : x.toNat ≠ y.toNat := fun h => h2 (UInt8.toNat_inj.1 h)
        have h5 : y.toNat + 1 ≤ x.toNat := by omega
        have := Nat.mul_le_mul_right k h5
        rw [Nat.add_mul] at this
        have e1 : ¬ (x.toNat * k + beNum a < y.toNat * k + beNum b) := by omega
        have e2 : (x == y) = false := by simpa using h2
        rw [e2, decide_eq_false e1]
        simp [h1]
theorem wf_u64 {a : Int} (h : (Lit.int .u64 a).wf = true) : 0 ≤ a ∧ a < 18446744073709551616 := by
  have e1 : IntKind.u64.min = 0 := by rfl
  have e2 : IntKind.u64.max = 18446744073709551615 := by rfl
  simp [Lit.wf] at h; omega
theorem wf_i64 {a : Int} (h : (Lit.int .i64 a).wf = true) : -9223372036854775808 ≤ a ∧ a ≤ 9223372036854775807 := by
  have e1 : IntKind.i64.min = -9223372036854775808 := by rfl
  have e2 : IntKind.i64.max = 9223372036854775807 := by rfl
  simp [Lit.wf] at h; omega
def putE (x n : Nat) : Value := if x < 256 ^ n then .nilIface else .iface 32 (.int .i64 12)
def putS (x n : Nat) : List UInt8 := if x < 256 ^ n then beBytes x n else []
theorem put_any (x n : Nat) (hx64 : x < 18446744073709551616) (h1 : 1 ≤ n) (h8 : n ≤ 8) (w : World) :
    Calls Tryd.prog 107 #[.int .u64 (x : Int), .int .i64 (n : Int)] w fun e w' => e = .returned (.tuple #[.string ⟨(putS x n).toArray⟩, putE x n]) ∧ Below w.heap.size w w' := by
  unfold putS putE
  by_cases h : x < 256 ^ n
  · rw [if_pos h, if_pos h]; exact put_ok x n hx64 h1 h8 h w
  · rw [if_neg h, if_neg h]
    have h8' : n < 8 := by
      rcases Nat.lt_or_ge n 8 with h' | h'
      · exact h'
      · exfalso; apply h
        have : n = 8 := by omega
        subst this; omega
    refine put_full x n h1 h8' ?_ w
    intro h0
    apply h
    rw [show (256 : Nat) ^ n = 2 ^ (8 * n) by rw [Nat.pow_mul]]
    exact (Nat.div_eq_zero_iff_lt (Nat.two_pow_pos _)).1 h0
end Go.Proofs.YteibhcocldihbaaDoor
namespace Go.Proofs.YteibhcocldihbaaDoor
open Go.RowKit
theorem must_ok (x n : Nat) (h1 : 1 ≤ n) (h7 : n ≤ 7) (hx : x < 256 ^ n) (w : World) :
    Calls Tryd.prog 43 #[.int .i64 (x : Int), .int .i64 (n : Int)] w fun e w' => e = .returned (.string ⟨(beBytes x n).toArray⟩) ∧ Below w.heap.size w w' := by
  have hx7 : x < 72057594037927936 := Nat.lt_of_lt_of_le hx (show 256 ^ n ≤ 256 ^ 7 from Nat.pow_le_pow_right (by decide) h7)
  have Hx := Lib.hid hx
  clear hx
  go_enter Tryd.func43, Tryd.ntmps43
  go_wp2_with fail
  refine (put_ok x n (by omega) h1 (by omega) Hx.out _).mono ?_
  rintro e w1 ⟨rfl, hb1⟩
  go_wp2_with fail
  go_ret
  exact ⟨rfl, hb1⟩
end Go.Proofs.YteibhcocldihbaaDoor
namespace Go.Proofs.YteibhcocldihbaaDoor
open Go.RowKit
/-- 'string(x[:])' of an address that lies in memory. -/
theorem conv_ad {w : World} {g o : Nat} (x : Ad) (h : w.rangeAt g o x.vals) : (convert 90 9 (.slice (some ⟨g, o, none⟩) 6 6)).run Tryd.prog w = .ok (.string ⟨x.list.toArray⟩) w := by
  have := run_convert_bytes_back (P := Tryd.prog) w 90 9 5 ⟨g, o, none⟩ 6 x.list Tryd.underlying90 Tryd.underlying5 Tryd.underlying9 (fun j hj => by
    rw [Addr.add_lit]
    refine h j _ ?_
    obtain ⟨a, b, c, d, e, f⟩ := x
    match j, hj with
    | 0, _ | 1, _ | 2, _ | 3, _ | 4, _ | 5, _ => rfl)
  exact this
set_option maxRecDepth 100000 in
set_option maxHeartbeats 2000000 in
theorem side_any (kind : Nat) (hk : kind = 1 ∨ kind = 2) (p : Pty) (hp : p.Ok) (w : World) :
    Calls Tryd.prog 105 #[.int .i64 (kind : Int), .agg p.vals.toArray] w fun e w' => e = .returned (.string ⟨(sideB kind p).toArray⟩) ∧ Below w.heap.size w w' := by
  have HB := Lib.hid (Box.new w p.vals 83)
  have hb0 : Below w.heap.size w (w.alloc (.cells p.vals.toArray 83)) := (Below.refl _ _).alloc (Nat.le_refl _) _
  have hl0 : w.heap.size < (w.alloc (.cells p.vals.toArray 83)).heap.size := by simp
  obtain ⟨sp, sys, key, pp, port, st⟩ := p
  obtain ⟨a0, a1, a2, a3, a4, a5, a6, a7, a8, a9⟩ := hp
  simp only [] at a0 a1 a2 a3 a4 a5 a6 a7 a8 a9
  obtain ⟨sp, rfl⟩ := Int.eq_ofNat_of_zero_le a0
  obtain ⟨key, rfl⟩ := Int.eq_ofNat_of_zero_le a2
  obtain ⟨pp, rfl⟩ := Int.eq_ofNat_of_zero_le a4
  obtain ⟨port, rfl⟩ := Int.eq_ofNat_of_zero_le a6
  obtain ⟨st, rfl⟩ := Int.eq_ofNat_of_zero_le a8
  have M0 : ∀ W, Calls Tryd.prog 43 #[.int .i64 (kind : Int), .int .i64 1] W fun e w' => e = .returned (.string ⟨(beBytes kind 1).toArray⟩) ∧ Below W.heap.size W w' := fun W => must_ok kind 1 (by decide) (by decide) (by omega) W
  have M1 : ∀ W, Calls Tryd.prog 43 #[.int .i64 (sp : Int), .int .i64 2] W fun e w' => e = .returned (.string ⟨(beBytes sp 2).toArray⟩) ∧ Below W.heap.size W w' := fun W => must_ok sp 2 (by decide) (by decide) (by omega) W
  have M2 : ∀ W, Calls Tryd.prog 43 #[.int .i64 (key : Int), .int .i64 2] W fun e w' => e = .returned (.string ⟨(beBytes key 2).toArray⟩) ∧ Below W.heap.size W w' := fun W => must_ok key 2 (by decide) (by decide) (by omega) W
  have M3 : ∀ W, Calls Tryd.prog 43 #[.int .i64 (pp : Int), .int .i64 2] W fun e w' => e = .returned (.string ⟨(beBytes pp 2).toArray⟩) ∧ Below W.heap.size W w' := fun W => must_ok pp 2 (by decide) (by decide) (by omega) W
  have M4 : ∀ W, Calls Tryd.prog 43 #[.int .i64 (port : Int), .int .i64 2] W fun e w' => e = .returned (.string ⟨(beBytes port 2).toArray⟩) ∧ Below W.heap.size W w' := fun W => must_ok port 2 (by decide) (by decide) (by omega) W
  have M5 : ∀ W, Calls Tryd.prog 43 #[.int .i64 (st : Int), .int .i64 1] W fun e w' => e = .returned (.string ⟨(beBytes st 1).toArray⟩) ∧ Below W.heap.size W w' := fun W => must_ok st 1 (by decide) (by decide) (by omega) W
  have hR : sideB kind ⟨sp, sys, key, pp, port, st⟩ = beBytes kind 1 ++ [20] ++ beBytes sp 2 ++ sys.list ++ beBytes key 2 ++ beBytes pp 2 ++ beBytes port 2 ++ beBytes st 1 ++ [0, 0, 0] := rfl
  have L0 : (beBytes kind 1).length ≤ 2 := by rw [beBytes_len]; decide
  have L1 : (beBytes sp 2).length ≤ 2 := by rw [beBytes_len]; decide
  have L2 : (beBytes key 2).length ≤ 2 := by rw [beBytes_len]; decide
  have L3 : (beBytes pp 2).length ≤ 2 := by rw [beBytes_len]; decide
  have L4 : (beBytes port 2).length ≤ 2 := by rw [beBytes_len]; decide
  have L5 : (beBytes st 1).length ≤ 2 := by rw [beBytes_len]; decide
  have L6 : sys.list.length ≤ 6 := Nat.le_of_eq (Ad.len _)
  rw [hR]
  clear hR a0 a1 a2 a3 a4 a5 a6 a7 a8 a9
  generalize beBytes kind 1 = B0 at *
  generalize beBytes sp 2 = B1 at *
  generalize beBytes key 2 = B2 at *
  generalize beBytes pp 2 = B3 at *
  generalize beBytes port 2 = B4 at *
  generalize beBytes st 1 = B5 at *
  have HM0 := Lib.hid M0; have HM1 := Lib.hid M1; have HM2 := Lib.hid M2; have HM3 := Lib.hid M3; have HM4 := Lib.hid M4; have HM5 := Lib.hid M5
  clear M0 M1 M2 M3 M4 M5
  go_enter Tryd.func105, Tryd.ntmps105
  go_upto_region 1 with (fail)
  generalize w.alloc (.cells (Pty.vals ⟨sp, sys, key, pp, port, st⟩).toArray 83) = W0 at *
  have c0 : W0.cell? ⟨w.heap.size, 0, none⟩ = some (.int .i64 (sp : Int)) := HB.out.cell 0
  have c7 : W0.cell? ⟨w.heap.size, 7, none⟩ = some (.int .i64 (key : Int)) := HB.out.cell 7
  have c8 : W0.cell? ⟨w.heap.size, 8, none⟩ = some (.int .i64 (pp : Int)) := HB.out.cell 8
  have c9 : W0.cell? ⟨w.heap.size, 9, none⟩ = some (.int .i64 (port : Int)) := HB.out.cell 9
  have c10 : W0.cell? ⟨w.heap.size, 10, none⟩ = some (.int .i64 (st : Int)) := HB.out.cell 10
  have hr : W0.rangeAt w.heap.size 1 sys.vals := fun i v hi => by
    have := HB.out.range (1 + i) v (by
      show (_ :: (sys.vals ++ _))[1 + i]? = some v
      rw [Nat.add_comm, List.getElem?_cons_succ, List.getElem?_append_left (List.getElem?_eq_some_iff.1 hi).1]; exact hi)
    simpa using this
  have k1 : ∀ x : Ext W0, (convert 90 9 (.slice (some ⟨w.heap.size, 1, none⟩) 6 6)).run Tryd.prog x.val = .ok (.string ⟨sys.list.toArray⟩) x.val := fun x => conv_ad sys (rangeAt_below hr x.below hl0)
  clear hr
  generalize hS : sys.list = S at *
  have HS := Lib.hid hS
  clear hS
  refine wp_region_ext (by kernel_rfl) (by kernel_rfl) ?_
  repeat (go_big_quiet_step (first | (with_reducible exact Calls.ext _ (HM0.out _)) | (with_reducible exact Calls.ext _ (HM1.out _)) | (with_reducible exact Calls.ext _ (HM2.out _)) | (with_reducible exact Calls.ext _ (HM3.out _)) | (with_reducible exact Calls.ext _ (HM4.out _)) | (with_reducible exact Calls.ext _ (HM5.out _))))
  refine wpQuiet_nil ?_
  rintro w2 ⟨⟨_, hb2⟩, rfl⟩
  go_wp2_with fail
  go_ret
  refine ⟨?_, hb0.trans (hb2.mono hb0.size)⟩
  rw [HS.out]
  simp [List.append_assoc]
def erV (e : Int) : Value := .iface 32 (.int .i64 e)
def lacOut (l : Lac) : Value := if l.okB = true then .tuple #[.string ⟨l.bytes.toArray⟩, .nilIface] else .tuple #[.string ⟨#[]⟩, erV 1]
theorem rep64 : Lib.repeatL (⟨#[0]⟩ : ByteArray).data.toList 64 = List.replicate 64 (0 : UInt8) := by decide +kernel
theorem repeat64 (w : World) : Calls Tryd.prog 44 #[.string ⟨#[0]⟩, .int .i64 64] w fun e w' => e = .returned (.string ⟨(List.replicate 64 (0 : UInt8)).toArray⟩) ∧ Below w.heap.size w w' := by
  have h := Tryd.strings_Repeat ⟨#[0]⟩ 64 w (by decide) (by decide)
  rw [rep64] at h
  exact h
set_option maxRecDepth 100000 in
set_option maxHeartbeats 2000000 in
theorem lacWrite_any (l : Lac) (w : World) :
    Calls Tryd.prog 41 #[.agg l.vals.toArray] w fun e w' => e = .returned (lacOut l) ∧ Below w.heap.size w w' := by
  have HB := Lib.hid (Box.new w l.vals 85)
  have hb0 : Below w.heap.size w (w.alloc (.cells l.vals.toArray 85)) := (Below.refl _ _).alloc (Nat.le_refl _) _
  have hl0 : w.heap.size < (w.alloc (.cells l.vals.toArray 85)).heap.size := by simp
  unfold lacOut
  cases hk : l.okB
  · have Hk := Lib.hid hk
    clear hk
    go_enter Tryd.func41, Tryd.ntmps41
    go_upto_region 1 with (fail)
    generalize w.alloc (.cells l.vals.toArray 85) = W0 at *
    go_wp2_with (first
      | (with_reducible refine wpList_load_rng (ty := 85) l.vals (by with_unfolding_all rfl) HB.out.range Tryd.underlying85 (by with_unfolding_all rfl) (by with_unfolding_all exact info85) ?_)
      | ((with_reducible refine (lacRight_any l W0).mono ?_)
         rintro e w1 ⟨rfl, hb1⟩
         rw [Hk.out]))
    go_ret2
    exact ⟨rfl, hb0.trans (hb1.mono hb0.size)⟩
  · obtain ⟨ha, hp, d0, d1⟩ := Lac.ok_iff.1 hk
    have Hk := Lib.hid hk
    clear hk
    obtain ⟨ac, pa, dl⟩ := l
    simp only [] at ha hp d0 d1
    obtain ⟨dl, rfl⟩ := Int.eq_ofNat_of_zero_le d0
    have M0 : ∀ W, Calls Tryd.prog 43 #[.int .i64 (dl : Int), .int .i64 2] W fun e w' => e = .returned (.string ⟨(beBytes dl 2).toArray⟩) ∧ Below W.heap.size W w' := fun W => must_ok dl 2 (by decide) (by decide) (by omega) W
    have M1 : ∀ W, Calls Tryd.prog 105 #[.int .i64 1, .agg ac.vals.toArray] W fun e w' => e = .returned (.string ⟨(sideB 1 ac).toArray⟩) ∧ Below W.heap.size W w' := fun W => side_any 1 (.inl rfl) ac ha W
    have M2 : ∀ W, Calls Tryd.prog 105 #[.int .i64 2, .agg pa.vals.toArray] W fun e w' => e = .returned (.string ⟨(sideB 2 pa).toArray⟩) ∧ Below W.heap.size W w' := fun W => side_any 2 (.inr rfl) pa hp W
    have M3 : ∀ W, Calls Tryd.prog 44 #[.string ⟨#[0]⟩, .int .i64 64] W fun e w' => e = .returned (.string ⟨(List.replicate 64 (0 : UInt8)).toArray⟩) ∧ Below W.heap.size W w' := repeat64
    have L0 : (beBytes dl 2).length ≤ 2 := by rw [beBytes_len]; decide
    have L1 : (sideB 1 ac).length ≤ 20 := Nat.le_of_eq (sideB_len _ _)
    have L2 : (sideB 2 pa).length ≤ 20 := Nat.le_of_eq (sideB_len _ _)
    have L3 : (List.replicate 64 (0 : UInt8)).length ≤ 64 := by simp
    have hR : Lac.bytes ⟨ac, pa, dl⟩ = [1, 1] ++ sideB 1 ac ++ sideB 2 pa ++ [3, 16] ++ beBytes dl 2 ++ List.replicate 64 0 := rfl
    rw [hR]
    clear hR d0 d1 ha hp
    generalize beBytes dl 2 = B0 at *
    generalize sideB 1 ac = B1 at *
    generalize sideB 2 pa = B2 at *
    generalize List.replicate 64 (0 : UInt8) = B3 at *
    have HM0 := Lib.hid M0; have HM1 := Lib.hid M1; have HM2 := Lib.hid M2; have HM3 := Lib.hid M3
    clear M0 M1 M2 M3
    go_enter Tryd.func41, Tryd.ntmps41
    go_upto_region 1 with (fail)
    generalize w.alloc (.cells (Lac.vals ⟨ac, pa, dl⟩).toArray 85) = W0 at *
    go_wp2_with (first
      | (with_reducible refine wpList_load_rng (ty := 85) (Lac.vals ⟨ac, pa, dl⟩) (by with_unfolding_all rfl) HB.out.range Tryd.underlying85 (by with_unfolding_all rfl) (by with_unfolding_all exact info85) ?_)
      | ((with_reducible refine (lacRight_any ⟨ac, pa, dl⟩ W0).mono ?_)
         rintro e w1 ⟨rfl, hb1⟩
         rw [Hk.out]))
    have HB1 := Lib.hid (HB.out.below hb1 hl0)
    have hl1 := Nat.lt_of_lt_of_le hl0 hb1.size
    have c22 := (lac_rng HB1.out).2.2
    simp only [] at c22
    refine wp_region_ext (by kernel_rfl) (by kernel_rfl) ?_
    repeat (go_big_quiet_step (fail))
    go_big_quiet_want
    with_reducible refine quiet_load_rng (b := ?b16) (off := ?o16) (ds := ?ds16) ac.vals ?hx16 ?hr16 ?hu16 ?hd16 ?hi16 ?hk16
    case hx16 => rfl
    case hr16 => rintro _ ⟨y, rfl⟩; exact rangeAt_below (lac_rng HB1.out).1 y.below hl1
    case hu16 => exact Tryd.underlying83
    case hd16 => rfl
    case hi16 => exact info83
    go_simp
    go_big_quiet_on
    repeat (go_big_quiet_step (first | (with_reducible exact Calls.ext _ (HM0.out _)) | (with_reducible exact Calls.ext _ (HM1.out _)) | (with_reducible exact Calls.ext _ (HM2.out _)) | (with_reducible exact Calls.ext _ (HM3.out _))))
    go_big_quiet_want
    with_reducible refine quiet_load_rng (b := ?b17) (off := ?o17) (ds := ?ds17) pa.vals ?hx17 ?hr17 ?hu17 ?hd17 ?hi17 ?hk17
    case hx17 => rfl
    case hr17 => rintro _ ⟨y, rfl⟩; exact rangeAt_below (lac_rng HB1.out).2.1 y.below hl1
    case hu17 => exact Tryd.underlying83
    case hd17 => rfl
    case hi17 => exact info83
    go_simp
    go_big_quiet_on
    repeat (go_big_quiet_step (first | (with_reducible exact Calls.ext _ (HM0.out _)) | (with_reducible exact Calls.ext _ (HM1.out _)) | (with_reducible exact Calls.ext _ (HM2.out _)) | (with_reducible exact Calls.ext _ (HM3.out _))))
    refine wpQuiet_nil ?_
    rintro w2 ⟨⟨_, hb2⟩, rfl⟩
    go_wp2_with fail
    go_ret2
    refine ⟨?_, (hb0.trans (hb1.mono hb0.size)).trans (hb2.mono (Nat.le_trans hb0.size hb1.size))⟩
    simp [List.append_assoc]
end Go.Proofs.YteibhcocldihbaaDoor

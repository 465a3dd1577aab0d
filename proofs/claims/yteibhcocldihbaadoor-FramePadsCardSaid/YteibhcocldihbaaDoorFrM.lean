/- Frames, as plain data: what is written, what is read. No program in sight. -/
import Derived.Test.YteibhcocldihbaaDoorBpduM3
set_option linter.all false
namespace Go.Proofs.YteibhcocldihbaaDoor
structure Tk where
  s : Bool
  pcp : Int
  dei : Bool
  vid : Int
deriving DecidableEq, Inhabited
def Tk.okB (t : Tk) : Bool := decide (0 ≤ t.pcp) && (decide (t.pcp ≤ 7) && (decide (0 ≤ t.vid) && decide (t.vid ≤ 4094)))
theorem Tk.ok_iff {t : Tk} : t.okB = true ↔ 0 ≤ t.pcp ∧ t.pcp ≤ 7 ∧ 0 ≤ t.vid ∧ t.vid ≤ 4094 := by simp [Tk.okB]
def Tk.num (t : Tk) : Nat := t.pcp.toNat * 8192 + bitN t.dei * 4096 + t.vid.toNat
def Tk.kind (t : Tk) : Nat := if t.s then 34984 else 33024
def Tk.bytes (t : Tk) : List UInt8 := beBytes t.kind 2 ++ beBytes t.num 2
def tagb (l : List Tk) : List UInt8 := l.flatMap Tk.bytes
def stackB (l : List Tk) : Bool := match l with
  | [] => true
  | [a] => a.okB
  | [a, b] => a.okB && (b.okB && (a.s && !b.s))
  | _ => false
def unpackM (s : Bool) (n : Nat) : Tk := ⟨s, ((n / 8192 : Nat) : Int), decide (n / 4096 % 2 = 1), ((n % 4096 : Nat) : Int)⟩
theorem Tk.bytes_len (t : Tk) : t.bytes.length = 4 := by simp [Tk.bytes, beBytes_len]
theorem tagb_len (l : List Tk) : (tagb l).length = 4 * l.length := by
  induction l with
  | nil => rfl
  | cons x l ih =>
    simp only [tagb, List.flatMap_cons, List.length_append, Tk.bytes_len, List.length_cons] at ih ⊢
    omega
theorem Tk.num_lt {t : Tk} (h : t.okB = true) : t.num < 65536 := by
  have := Tk.ok_iff.1 h
  have := bitN_lt t.dei
  unfold Tk.num; omega
theorem unpack_num {t : Tk} (h : t.okB = true) : unpackM t.s t.num = t ∧ t.num % 4096 ≠ 4095 := by
  have h1 := Tk.ok_iff.1 h
  have h2 := bitN_lt t.dei
  obtain ⟨s, p, d, v⟩ := t
  simp only [] at h1 h2
  unfold unpackM Tk.num
  simp only []
  refine ⟨?_, by omega⟩
  rw [show (p.toNat * 8192 + bitN d * 4096 + v.toNat) / 8192 = p.toNat by omega,
    show (p.toNat * 8192 + bitN d * 4096 + v.toNat) / 4096 % 2 = bitN d by omega,
    show (p.toNat * 8192 + bitN d * 4096 + v.toNat) % 4096 = v.toNat by omega, bitN_dec]
  rw [show ((p.toNat : Nat) : Int) = p by omega, show ((v.toNat : Nat) : Int) = v by omega]
theorem unpack_ok (s : Bool) {n : Nat} (hn : n < 65536) (h : n % 4096 ≠ 4095) : (unpackM s n).okB = true ∧ (unpackM s n).num = n := by
  refine ⟨?_, ?_⟩
  · rw [Tk.ok_iff]
    unfold unpackM
    simp only []
    omega
  · unfold unpackM Tk.num
    simp only [bitN_of, Int.toNat_natCast]
    omega
theorem stack_len {l : List Tk} (h : stackB l = true) : l.length ≤ 2 := by
  match l, h with
  | [], _ => simp
  | [_], _ => simp
  | [_, _], _ => simp
theorem stack_ok {l : List Tk} (h : stackB l = true) : ∀ t ∈ l, t.okB = true := by
  match l, h with
  | [], _ => simp
  | [a], h => intro t ht; rw [List.mem_singleton.1 ht]; exact h
  | [a, b], h =>
    simp only [stackB, Bool.and_eq_true] at h
    intro t ht
    simp only [List.mem_cons, List.not_mem_nil, or_false] at ht
    rcases ht with rfl | rfl
    · exact h.1
    · exact h.2.1
/-! ### Frames -/
structure Fu where
  dst : Ad
  src : Ad
  tags : List Tk
  kind : Int
  typ : Int
  dsap : Int
  ssap : Int
  ctl : Int
  oui : Int
  pid : Int
  body : List UInt8
deriving DecidableEq
def Fu.zero : Fu := ⟨Ad.of [], Ad.of [], [], 0, 0, 0, 0, 0, 0, 0, []⟩
def Fu.extra (f : Fu) : Nat := if f.kind = 2 then 3 else if f.kind = 3 then 8 else 0
def Fu.head (f : Fu) : Nat := 14 + 4 * f.tags.length + f.extra
def Fu.size (f : Fu) : Nat := f.extra + f.body.length
def Fu.three (f : Fu) (a b c : Int) : Bool := decide (f.dsap = a) && (decide (f.ssap = b) && decide (f.ctl = c))
def Fu.kindB (f : Fu) : Bool :=
  if f.kind = 1 then decide (1536 ≤ f.typ) && (decide (f.typ ≤ 65535) && (decide (f.typ ≠ 33024) && (decide (f.typ ≠ 34984) && (f.three 0 0 0 && (decide (f.oui = 0) && decide (f.pid = 0))))))
  else if f.kind = 2 then decide (f.typ = 0) && ((decide (0 ≤ f.dsap) && decide (f.dsap ≤ 255)) && ((decide (0 ≤ f.ssap) && decide (f.ssap ≤ 255)) && ((decide (0 ≤ f.ctl) && decide (f.ctl ≤ 255)) && (!f.three 170 170 3 && (decide (f.oui = 0) && (decide (f.pid = 0) && decide (f.size ≤ 1500)))))))
  else if f.kind = 3 then decide (f.typ = 0) && (f.three 0 0 0 && (decide (0 ≤ f.oui) && (decide (f.oui < 16777216) && (decide (0 ≤ f.pid) && (decide (f.pid < 65536) && decide (f.size ≤ 1500))))))
  else false
def Fu.okB (f : Fu) : Bool := stackB f.tags && (decide (f.body.length ≤ 2000) && (decide (f.head + f.body.length ≤ 2000) && f.kindB))
def Fu.mid (f : Fu) : List UInt8 := if f.kind = 2 then beBytes f.dsap.toNat 1 ++ (beBytes f.ssap.toNat 1 ++ beBytes f.ctl.toNat 1) else if f.kind = 3 then [170, 170, 3] ++ (beBytes f.oui.toNat 3 ++ beBytes f.pid.toNat 2) else []
def Fu.lt (f : Fu) : Nat := if f.kind = 1 then f.typ.toNat else f.size
def Fu.ahead (f : Fu) : List UInt8 := f.dst.list ++ (f.src.list ++ (tagb f.tags ++ beBytes f.lt 2))
def Fu.bytes (f : Fu) : List UInt8 := f.dst.list ++ (f.src.list ++ (tagb f.tags ++ (beBytes f.lt 2 ++ (f.mid ++ f.body))))
theorem Fu.mid_len (f : Fu) : f.mid.length = f.extra := by
  unfold Fu.mid Fu.extra
  split
  · simp [beBytes_len]
  · split
    · simp [beBytes_len]
    · rfl
theorem Fu.bytes_len (f : Fu) : f.bytes.length = f.head + f.body.length := by
  simp only [Fu.bytes, List.length_append, Ad.len, tagb_len, beBytes_len, Fu.mid_len, Fu.head]
  omega
theorem Fu.kind_cases {f : Fu} (h : f.kindB = true) : (f.kind = 1 ∧ (1536 ≤ f.typ ∧ f.typ ≤ 65535 ∧ f.typ ≠ 33024 ∧ f.typ ≠ 34984) ∧ (f.dsap = 0 ∧ f.ssap = 0 ∧ f.ctl = 0) ∧ f.oui = 0 ∧ f.pid = 0) ∨
    (f.kind = 2 ∧ f.typ = 0 ∧ (0 ≤ f.dsap ∧ f.dsap ≤ 255) ∧ (0 ≤ f.ssap ∧ f.ssap ≤ 255) ∧ (0 ≤ f.ctl ∧ f.ctl ≤ 255) ∧ ¬ (f.dsap = 170 ∧ f.ssap = 170 ∧ f.ctl = 3) ∧ f.oui = 0 ∧ f.pid = 0 ∧ f.size ≤ 1500) ∨
    (f.kind = 3 ∧ f.typ = 0 ∧ (f.dsap = 0 ∧ f.ssap = 0 ∧ f.ctl = 0) ∧ (0 ≤ f.oui ∧ f.oui < 16777216) ∧ (0 ≤ f.pid ∧ f.pid < 65536) ∧ f.size ≤ 1500) := by
  unfold Fu.kindB at h
  split at h
  · rename_i hk
    simp only [Fu.three, Bool.and_eq_true, decide_eq_true_eq] at h
    obtain ⟨a, b, c, d, ⟨e, f, g⟩, i, j⟩ := h
    exact .inl ⟨hk, ⟨a, b, c, d⟩, ⟨e, f, g⟩, i, j⟩
  · split at h
    · rename_i hk
      simp only [Fu.three, Bool.and_eq_true, decide_eq_true_eq, Bool.not_eq_true', Bool.and_eq_false_iff, decide_eq_false_iff_not] at h
      obtain ⟨a, b, c, d, e, g, i, j⟩ := h
      exact .inr (.inl ⟨hk, a, b, c, d, fun ⟨x, y, z⟩ => by rcases e with e | e | e; exact e x; exact e y; exact e z, g, i, j⟩)
    · split at h
      · rename_i hk
        simp only [Fu.three, Bool.and_eq_true, decide_eq_true_eq] at h
        obtain ⟨a, ⟨b, c, d⟩, e, g, i, j, k⟩ := h
        exact .inr (.inr ⟨hk, a, ⟨b, c, d⟩, ⟨e, g⟩, ⟨i, j⟩, k⟩)
      · cases h
theorem Fu.lt_ok {f : Fu} (h : f.kindB = true) : f.lt < 65536 ∧ f.lt ≠ 33024 ∧ f.lt ≠ 34984 ∧ (f.kind = 1 → 1536 ≤ f.lt ∧ ((f.lt : Nat) : Int) = f.typ) ∧ (f.kind ≠ 1 → f.lt ≤ 1500 ∧ f.lt = f.size) := by
  unfold Fu.lt
  rcases f.kind_cases h with ⟨k, ⟨a, b, c, d⟩, _⟩ | ⟨k, _, _, _, _, _, _, _, s⟩ | ⟨k, _, _, _, _, s⟩
  · rw [if_pos k]
    refine ⟨by omega, by omega, by omega, fun _ => by omega, fun h => absurd k h⟩
  · rw [if_neg (by omega)]
    refine ⟨by omega, by omega, by omega, fun h => by omega, fun _ => ⟨s, rfl⟩⟩
  · rw [if_neg (by omega)]
    refine ⟨by omega, by omega, by omega, fun h => by omega, fun _ => ⟨s, rfl⟩⟩
/-! ### Reading -/
def tagsM : Nat → RS → Nat → Nat → List Tk → List Tk × RS × Nat × Nat
  | 0, R, p, n, l => (l, R, p, n)
  | f + 1, R, p, n, l =>
    if R.err = none ∧ (n = 33024 ∨ n = 34984) then
      if (numM R 2).2.err ≠ none then (l, (numM R 2).2, p, n)
      else if (numM R 2).1 % 4096 = 4095 then (l, failM (numM R 2).2 3 ((p + 2 : Nat) : Int), p, n)
      else if stackB (l ++ [unpackM (decide (n = 34984)) (numM R 2).1]) = false then (l ++ [unpackM (decide (n = 34984)) (numM R 2).1], failM (numM R 2).2 10 (p : Int), p, n)
      else tagsM f (numM (numM R 2).2 2).2 (numM R 2).2.place (numM (numM R 2).2 2).1 (l ++ [unpackM (decide (n = 34984)) (numM R 2).1])
    else (l, R, p, n)
def allM (R : RS) : List UInt8 × RS := bytesM R (R.s.length - R.at_)
def subM (R : RS) (n : Nat) : RS × RS := (⟨(bytesM R n).1, 0, R.place, (bytesM R n).2.err⟩, (bytesM R n).2)
def longM (f : Fu) (R : RS) : Fu × RS :=
  let a := numM R 1
  let b := numM a.2 1
  let c := numM b.2 1
  if a.1 = 170 ∧ b.1 = 170 ∧ c.1 = 3 then
    let o := numM c.2 3
    let p := numM o.2 2
    let t := allM p.2
    ({ f with kind := 3, dsap := 0, ssap := 0, ctl := 0, oui := (o.1 : Int), pid := (p.1 : Int), body := t.1 }, t.2)
  else
    let t := allM c.2
    ({ f with kind := 2, dsap := (a.1 : Int), ssap := (b.1 : Int), ctl := (c.1 : Int), body := t.1 }, t.2)
def endFrM (f : Fu) (R : RS) (p n : Nat) : Fu × Option (Int × Int) :=
  match R.err with
  | some x => (Fu.zero, some x)
  | none =>
    if 1536 ≤ n then ({ f with kind := 1, typ := (n : Int), body := (allM R).1 }, none)
    else if 1500 < n then (Fu.zero, some (2, (p : Int)))
    else match (longM f (subM R n).1).2.err with
      | some x => (Fu.zero, some x)
      | none => match (zerosM (subM R n).2).2.err with
        | some x => (Fu.zero, some x)
        | none => ((longM f (subM R n).1).1, none)
def readFrM (s : List UInt8) : Fu × Option (Int × Int) :=
  if 2000 < s.length then (Fu.zero, some (4, 2000)) else
  let d := bytesM (newM s 0) 6
  let c := bytesM d.2 6
  let n := numM c.2 2
  let t := tagsM 4 n.2 c.2.place n.1 []
  endFrM ⟨Ad.of d.1, Ad.of c.1, t.1, 0, 0, 0, 0, 0, 0, 0, []⟩ t.2.1 t.2.2.1 t.2.2.2
theorem stack_pre {l m : List Tk} (h : stackB (l ++ m) = true) : stackB l = true := by
  match l, m, h with
  | [], _, _ => rfl
  | [a], [], h => exact h
  | [a], [b], h => simp only [List.cons_append, List.nil_append, stackB, Bool.and_eq_true] at h; exact h.1
  | [a, b], [], h => exact h
theorem tags_left : ∀ (suf : List Tk) (fuel : Nat) (R : RS) (p : Nat) (pre : List Tk) (n : Nat) (rest : List UInt8), stackB (pre ++ suf) = true → suf.length < fuel → n < 65536 → n ≠ 33024 → n ≠ 34984 → R.Left (tagb suf ++ (beBytes n 2 ++ rest)) →
    ∃ R' p', tagsM fuel (numM R 2).2 p (numM R 2).1 pre = (pre ++ suf, R', p', n) ∧ R'.Left rest
  | [], f + 1, R, p, pre, n, rest, _, _, h1, h2, h3, hL => by
    have g : R.Left (beBytes n 2 ++ rest) := by simpa [tagb] using hL
    rw [numM_be g (show n < 256 ^ 2 by omega)]
    refine ⟨R.skip 2, p, ?_, g.skip (beBytes_len _ _)⟩
    unfold tagsM
    rw [if_neg (by intro h; omega), List.append_nil]
  | t :: suf, f + 1, R, p, pre, n, rest, hs, hf, h1, h2, h3, hL => by
    have g : R.Left (beBytes t.kind 2 ++ (beBytes t.num 2 ++ (tagb suf ++ (beBytes n 2 ++ rest)))) := by simpa [tagb, Tk.bytes, List.append_assoc] using hL
    have hs' : stackB ((pre ++ [t]) ++ suf) = true := by rw [List.append_assoc]; exact hs
    have hok : t.okB = true := stack_ok hs t (by simp)
    have hkl : t.kind < 65536 := by unfold Tk.kind; split <;> decide
    have hk2 : t.kind = 33024 ∨ t.kind = 34984 := by unfold Tk.kind; split <;> simp
    have hks : decide (t.kind = 34984) = t.s := by unfold Tk.kind; cases t.s <;> rfl
    rw [numM_be g (show t.kind < 256 ^ 2 by omega)]
    have g1 := g.skip (beBytes_len _ 2)
    have e1 := numM_be g1 (show t.num < 256 ^ 2 from Tk.num_lt hok)
    have g2 := g1.skip (beBytes_len _ 2)
    obtain ⟨R', p', e, hR⟩ := tags_left suf f ((R.skip 2).skip 2) ((R.skip 2).skip 2).place (pre ++ [t]) n rest hs' (by simp only [List.length_cons] at hf; omega) h1 h2 h3 g2
    refine ⟨R', p', ?_, hR⟩
    unfold tagsM
    simp only []
    rw [if_pos ⟨g1.none, hk2⟩, e1]
    simp only []
    rw [if_neg (by rw [g2.none]; simp), if_neg (unpack_num hok).2, hks, (unpack_num hok).1, if_neg (by rw [stack_pre hs']; simp), e, List.append_assoc]
    rfl
theorem allM_left {R : RS} {rest : List UInt8} (h : R.Left rest) : allM R = (rest, R.skip rest.length) ∧ (allM R).2.err = none := by
  have hl := h.len
  have e : R.s.length - R.at_ = rest.length := by omega
  have h' : R.Left (rest ++ []) := by rw [List.append_nil]; exact h
  have := bytesM_left h' rfl
  unfold allM
  rw [e, this]
  exact ⟨rfl, h.none⟩
theorem long_left {f g : Fu} {R : RS} (hk : f.kindB = true) (h1 : f.kind ≠ 1) (hL : R.Left (f.mid ++ f.body)) (hg : g = { f with kind := 0, dsap := 0, ssap := 0, ctl := 0, oui := 0, pid := 0, typ := 0, body := [] }) :
    ∃ R', longM g R = (f, R') ∧ R'.err = none := by
  obtain ⟨ds, sr, tg, k, ty, a, b, c, o, pi, bo⟩ := f
  subst hg
  rcases Fu.kind_cases hk with ⟨k1, _⟩ | ⟨k2, t0, ⟨a0, a1⟩, ⟨b0, b1⟩, ⟨c0, c1⟩, hne, o0, p0, _⟩ | ⟨k3, t0, ⟨a0, b0, c0⟩, ⟨o0, o1⟩, ⟨p0, p1⟩, _⟩
  · exact absurd k1 h1
  · simp only [] at k2 t0 a0 a1 b0 b1 c0 c1 hne o0 p0
    subst k2 t0 o0 p0
    have g0 : R.Left (beBytes a.toNat 1 ++ (beBytes b.toNat 1 ++ (beBytes c.toNat 1 ++ bo))) := by
      simpa [Fu.mid, List.append_assoc] using hL
    have e0 := numM_be g0 (show a.toNat < 256 ^ 1 by omega)
    have g1 := g0.skip (beBytes_len _ 1)
    have e1 := numM_be g1 (show b.toNat < 256 ^ 1 by omega)
    have g2 := g1.skip (beBytes_len _ 1)
    have e2 := numM_be g2 (show c.toNat < 256 ^ 1 by omega)
    have g3 := g2.skip (beBytes_len _ 1)
    obtain ⟨e3, z3⟩ := allM_left g3
    rw [e3] at z3
    refine ⟨_, ?_, z3⟩
    unfold longM
    simp only [e0, e1, e2]
    rw [if_neg (by omega), e3]
    simp only [Int.toNat_of_nonneg a0, Int.toNat_of_nonneg b0, Int.toNat_of_nonneg c0]
  · simp only [] at k3 t0 a0 b0 c0 o0 o1 p0 p1
    subst k3 t0 a0 b0 c0
    have g0 : R.Left ([170] ++ ([170] ++ ([3] ++ (beBytes o.toNat 3 ++ (beBytes pi.toNat 2 ++ bo))))) := by
      simpa [Fu.mid, List.append_assoc] using hL
    have e0 := numM_left (n := 1) g0 rfl
    have g1 := g0.skip (n := 1) rfl
    have e1 := numM_left (n := 1) g1 rfl
    have g2 := g1.skip (n := 1) rfl
    have e2 := numM_left (n := 1) g2 rfl
    have g3 := g2.skip (n := 1) rfl
    have e3 := numM_be (n := 3) g3 (show o.toNat < 256 ^ 3 by omega)
    have g4 := g3.skip (beBytes_len _ 3)
    have e4 := numM_be (n := 2) g4 (show pi.toNat < 256 ^ 2 by omega)
    have g5 := g4.skip (beBytes_len _ 2)
    obtain ⟨e5, z5⟩ := allM_left g5
    rw [e5] at z5
    refine ⟨_, ?_, z5⟩
    unfold longM
    simp only [e0, e1, e2]
    rw [if_pos (by decide)]
    simp only [e3, e4, e5, Int.toNat_of_nonneg o0, Int.toNat_of_nonneg p0]
theorem sub_left {R : RS} {c rest : List UInt8} (h : R.Left (c ++ rest)) : (subM R c.length).1.Left c ∧ (subM R c.length).2 = R.skip c.length := by
  have hb := bytesM_left h rfl
  have hl := h.len
  have hlim := h.ok.lim
  rw [List.length_append] at hl
  unfold subM
  rw [hb]
  refine ⟨⟨h.none, ⟨Nat.zero_le _, ?_⟩, rfl⟩, rfl⟩
  show R.place + c.length ≤ 4611686018427387904
  unfold RS.place; omega
/-- What is written is read; noughts behind it do not matter where the length is told. -/
theorem readFr_bytes (f : Fu) (k : Nat) (hf : f.okB = true) (hk : f.kind = 1 → k = 0) (hl : f.bytes.length + k ≤ 2000) : readFrM (f.bytes ++ List.replicate k 0) = (f, none) := by
  simp only [Fu.okB, Bool.and_eq_true, decide_eq_true_eq] at hf
  obtain ⟨hs, hb, hh, hK⟩ := hf
  obtain ⟨l1, l2, l3, l4, l5⟩ := Fu.lt_ok hK
  have hlen : (f.bytes ++ List.replicate k (0 : UInt8)).length = f.bytes.length + k := by rw [List.length_append, List.length_replicate]
  have g0 : (newM (f.bytes ++ List.replicate k 0) 0).Left (f.dst.list ++ (f.src.list ++ (tagb f.tags ++ (beBytes f.lt 2 ++ (f.mid ++ (f.body ++ List.replicate k 0)))))) := by
    have := newM_left (f.bytes ++ List.replicate k 0) 0 (by omega)
    simpa [Fu.bytes, List.append_assoc] using this
  have e0 := bytesM_left g0 (Ad.len _)
  have g1 := g0.skip (Ad.len _)
  have e1 := bytesM_left g1 (Ad.len _)
  have g2 := g1.skip (Ad.len _)
  obtain ⟨R', p', e2, g3⟩ := tags_left f.tags 4 _ (((newM (f.bytes ++ List.replicate k 0) 0).skip 6).skip 6).place [] f.lt _ hs (by have := stack_len hs; omega) l1 l2 l3 g2
  unfold readFrM
  rw [if_neg (by omega)]
  simp only [e0, e1, e2, Ad.of_list, List.nil_append]
  unfold endFrM
  rw [g3.none]
  simp only []
  by_cases h1 : f.kind = 1
  · obtain ⟨t1, t2⟩ := l4 h1
    rw [if_pos t1]
    have hk0 := hk h1
    subst hk0
    have hm : f.mid = [] := by unfold Fu.mid; rw [if_neg (by omega), if_neg (by omega)]
    have g4 : R'.Left f.body := by simpa [hm] using g3
    rw [(allM_left g4).1]
    rcases Fu.kind_cases hK with ⟨_, _, ⟨a, b, c⟩, o, p⟩ | ⟨h, _⟩ | ⟨h, _⟩
    · obtain ⟨ds, sr, tg, kk, ty, da, sa, ct, ou, pi, bo⟩ := f
      simp only [] at h1 t2 a b c o p ⊢
      subst h1 a b c o p
      rw [t2]
    · omega
    · omega
  · obtain ⟨t1, t2⟩ := l5 h1
    rw [if_neg (by omega), if_neg (by omega)]
    have hml : (f.mid ++ f.body).length = f.lt := by rw [List.length_append, Fu.mid_len, t2, Fu.size]
    have g4 : R'.Left ((f.mid ++ f.body) ++ List.replicate k 0) := by rw [List.append_assoc]; exact g3
    obtain ⟨s1, s2⟩ := sub_left g4
    rw [hml] at s1 s2
    have hty : f.typ = 0 := by
      rcases Fu.kind_cases hK with ⟨h, _⟩ | ⟨_, h, _⟩ | ⟨_, h, _⟩
      · exact absurd h h1
      · exact h
      · exact h
    obtain ⟨R2, e3, z3⟩ := long_left hK h1 s1 rfl
    have e3' : longM ⟨f.dst, f.src, f.tags, 0, 0, 0, 0, 0, 0, 0, []⟩ (subM R' f.lt).1 = (f, R2) := e3
    rw [e3']
    simp only [z3]
    rw [s2]
    have g5 := g4.skip hml
    rw [zerosM_left g5 (fun c hc => (List.mem_replicate.1 hc).2)]
    simp only [show (R'.skip f.lt).err = none from g5.none]
theorem readFr_bytes0 (f : Fu) (hf : f.okB = true) : readFrM f.bytes = (f, none) := by
  have hl : f.bytes.length ≤ 2000 := by
    rw [Fu.bytes_len]
    simp only [Fu.okB, Bool.and_eq_true, decide_eq_true_eq] at hf
    exact hf.2.2.1
  have := readFr_bytes f 0 hf (fun _ => rfl) (by omega)
  simpa using this
/-! ### Back -/
theorem tags_back : ∀ (fuel : Nat) (R : RS) (p : Nat) (pre l : List Tk) (R' : RS) (p' n : Nat), R.ok → stackB pre = true → 3 ≤ fuel + pre.length → tagsM fuel (numM R 2).2 p (numM R 2).1 pre = (l, R', p', n) → R'.err = none →
    ∃ suf rest, l = pre ++ suf ∧ stackB l = true ∧ R.Left (tagb suf ++ (beBytes n 2 ++ rest)) ∧ R'.Left rest ∧ n < 65536 ∧ n ≠ 33024 ∧ n ≠ 34984
  | 0, R, p, pre, l, R', p', n, _, hs, hf, _, _ => by have := stack_len hs; omega
  | f + 1, R, p, pre, l, R', p', n, hok, hs, hf, h, he => by
    unfold tagsM at h
    split at h
    · rename_i hc
      split at h
      · rename_i h2
        have hR := congrArg (fun x => x.2.1) h
        simp only [] at hR
        rw [← hR] at he
        exact absurd he h2
      · split at h
        · have hR := congrArg (fun x => x.2.1) h
          simp only [] at hR
          rw [← hR] at he
          exact absurd he (failM_err _ _ _)
        · rename_i h2 h4
          split at h
          · have hR := congrArg (fun x => x.2.1) h
            simp only [] at hR
            rw [← hR] at he
            exact absurd he (failM_err _ _ _)
          · rename_i h5
            have h2 : (numM (numM R 2).2 2).2.err = none := Decidable.byContradiction h2
            have h5 : stackB (pre ++ [unpackM (decide ((numM R 2).1 = 34984)) (numM (numM R 2).2 2).1]) = true := by simpa using h5
            obtain ⟨c1, r1, l1, L1, e1, G1⟩ := numM_back hok hc.1
            obtain ⟨c2, r2, l2, L2, e2, G2⟩ := numM_back (hok.num 2) h2
            obtain ⟨suf, rest, q1, q2, q3, q4, q5⟩ := tags_back f _ _ _ l R' p' n ((hok.num 2).num 2) h5 (by simp only [List.length_append, List.length_cons, List.length_nil]; omega) h he
            have G1' : (numM R 2).2.Left r1 := by rw [e1]; exact G1
            have G2' : (numM (numM R 2).2 2).2.Left r2 := by rw [e2]; exact G2
            have v1 : (numM R 2).1 = beNum c1 := by rw [e1]
            have v2 : (numM (numM R 2).2 2).1 = beNum c2 := by rw [e2]
            have b2 := beNum_lt c2
            rw [l2] at b2
            rw [v1, v2] at q1
            rw [v1] at hc
            rw [v2] at h4
            have t1 : r1 = c2 ++ r2 := G1'.left.symm.trans L2.left
            have t2 : r2 = _ := G2'.left.symm.trans q3.left
            have u1 := unpack_ok (decide (beNum c1 = 34984)) (n := beNum c2) (by omega) h4
            have ub : (unpackM (decide (beNum c1 = 34984)) (beNum c2)).bytes = c1 ++ c2 := by
              unfold Tk.bytes
              rw [u1.2]
              have hk : (unpackM (decide (beNum c1 = 34984)) (beNum c2)).kind = beNum c1 := by
                unfold Tk.kind unpackM
                simp only [decide_eq_true_eq]
                rcases hc.2 with h | h <;> rw [h] <;> rfl
              have k1 := beBytes_beNum c1
              have k2 := beBytes_beNum c2
              rw [l1] at k1
              rw [l2] at k2
              rw [hk, k1, k2]
            refine ⟨unpackM (decide (beNum c1 = 34984)) (beNum c2) :: suf, rest, ?_, q2, ?_, q4, q5⟩
            · rw [q1, List.append_assoc]; rfl
            · rw [t1, t2] at L1
              simp only [tagb, List.flatMap_cons, ub]
              simpa [tagb, List.append_assoc] using L1
    · rename_i hc
      have hl : pre = l := congrArg Prod.fst h
      have hR : (numM R 2).2 = R' := congrArg (fun x => x.2.1) h
      have hn : (numM R 2).1 = n := congrArg (fun x => x.2.2.2) h
      rw [← hR] at he ⊢
      rw [← hn, ← hl]
      obtain ⟨c1, r1, l1, L1, e1, G1⟩ := numM_back hok he
      have v1 : (numM R 2).1 = beNum c1 := by rw [e1]
      have b1 := beNum_lt c1
      rw [l1] at b1
      have k1 := beBytes_beNum c1
      rw [l1] at k1
      rw [v1] at hc ⊢
      refine ⟨[], r1, by rw [List.append_nil], hs, ?_, by rw [e1]; exact G1, by omega, fun h => hc ⟨he, .inl h⟩, fun h => hc ⟨he, .inr h⟩⟩
      rw [k1]; exact L1
theorem allM_back {R : RS} (hok : R.ok) (h : (allM R).2.err = none) : R.Left (allM R).1 := by
  have he : R.err = none := bytesM_err h
  have hL : R.Left (R.s.drop R.at_) := ⟨he, hok, rfl⟩
  rw [(allM_left hL).1]
  exact hL
theorem long_back {g : Fu} {R : RS} {c : List UInt8} (hL : R.Left c) (h : (longM g R).2.err = none) (ht : g.typ = 0) (ho : g.oui = 0) (hp : g.pid = 0) (hc : c.length ≤ 1500) :
    (longM g R).1.kindB = true ∧ (longM g R).1.kind ≠ 1 ∧ (longM g R).1.mid ++ (longM g R).1.body = c ∧ (longM g R).1.dst = g.dst ∧ (longM g R).1.src = g.src ∧ (longM g R).1.tags = g.tags := by
  have o0 := hL.ok
  have o1 := o0.num 1
  have o2 := o1.num 1
  have o3 := o2.num 1
  unfold longM at h ⊢
  simp only [] at h ⊢
  have hz : (numM (numM (numM R 1).2 1).2 1).2.err = none := by
    split at h
    · exact bytesM_err (n := 3) (bytesM_err (n := 2) (bytesM_err h))
    · exact bytesM_err h
  have hy : (numM (numM R 1).2 1).2.err = none := bytesM_err (n := 1) hz
  have hx : (numM R 1).2.err = none := bytesM_err (n := 1) hy
  obtain ⟨c1, r1, l1, L1, e1, G1⟩ := numM_back o0 hx
  obtain ⟨c2, r2, l2, L2, e2, G2⟩ := numM_back o1 hy
  obtain ⟨c3, r3, l3, L3, e3, G3⟩ := numM_back o2 hz
  have G1' : (numM R 1).2.Left r1 := by rw [e1]; exact G1
  have G2' : (numM (numM R 1).2 1).2.Left r2 := by rw [e2]; exact G2
  have G3' : (numM (numM (numM R 1).2 1).2 1).2.Left r3 := by rw [e3]; exact G3
  have q0 : c = c1 ++ r1 := hL.left.symm.trans L1.left
  have q1 : r1 = c2 ++ r2 := G1'.left.symm.trans L2.left
  have q2 : r2 = c3 ++ r3 := G2'.left.symm.trans L3.left
  have v1 : (numM R 1).1 = beNum c1 := by rw [e1]
  have v2 : (numM (numM R 1).2 1).1 = beNum c2 := by rw [e2]
  have v3 : (numM (numM (numM R 1).2 1).2 1).1 = beNum c3 := by rw [e3]
  have b1 := beNum_lt c1
  have b2 := beNum_lt c2
  have b3 := beNum_lt c3
  rw [l1] at b1
  rw [l2] at b2
  rw [l3] at b3
  have k1 := beBytes_beNum c1
  have k2 := beBytes_beNum c2
  have k3 := beBytes_beNum c3
  rw [l1] at k1
  rw [l2] at k2
  rw [l3] at k3
  rw [v1, v2, v3] at h ⊢
  have hlen := congrArg List.length q0
  rw [q1, q2] at hlen
  simp only [List.length_append, l1, l2, l3] at hlen
  by_cases hs : beNum c1 = 170 ∧ beNum c2 = 170 ∧ beNum c3 = 3
  · rw [if_pos hs] at h ⊢
    have hw : (numM (numM (numM (numM (numM R 1).2 1).2 1).2 3).2 2).2.err = none := bytesM_err h
    have hv : (numM (numM (numM (numM R 1).2 1).2 1).2 3).2.err = none := bytesM_err (n := 2) hw
    obtain ⟨c4, r4, l4, L4, e4, G4⟩ := numM_back o3 hv
    obtain ⟨c5, r5, l5, L5, e5, G5⟩ := numM_back (o3.num 3) hw
    have G4' : (numM (numM (numM (numM R 1).2 1).2 1).2 3).2.Left r4 := by rw [e4]; exact G4
    have G5' : (numM (numM (numM (numM (numM R 1).2 1).2 1).2 3).2 2).2.Left r5 := by rw [e5]; exact G5
    have q3 : r3 = c4 ++ r4 := G3'.left.symm.trans L4.left
    have q4 : r4 = c5 ++ r5 := G4'.left.symm.trans L5.left
    have v4 : (numM (numM (numM (numM R 1).2 1).2 1).2 3).1 = beNum c4 := by rw [e4]
    have v5 : (numM (numM (numM (numM (numM R 1).2 1).2 1).2 3).2 2).1 = beNum c5 := by rw [e5]
    have b4 := beNum_lt c4
    have b5 := beNum_lt c5
    rw [l4] at b4
    rw [l5] at b5
    have k4 := beBytes_beNum c4
    have k5 := beBytes_beNum c5
    rw [l4] at k4
    rw [l5] at k5
    have hb := (allM_left G5').1
    rw [hb]
    simp only [v4, v5]
    have hl2 := congrArg List.length q3
    rw [q4] at hl2
    simp only [List.length_append, l4, l5] at hl2
    refine ⟨?_, by simp, ?_, by simp, by simp, by simp⟩
    · unfold Fu.kindB Fu.three Fu.size Fu.extra
      simp [ht]
      omega
    · unfold Fu.mid
      simp only [Int.toNat_natCast, k4, k5]
      rw [if_neg (show ¬ ((3 : Int) = 2) by decide)]
      simp only [if_true]
      rw [q0, q1, q2, q3, q4]
      rw [hs.1] at k1
      rw [hs.2.1] at k2
      rw [hs.2.2] at k3
      rw [← k1, ← k2, ← k3]
      have x1 : beBytes 170 1 = [170] := by decide
      have x2 : beBytes 3 1 = [3] := by decide
      rw [x1, x2]
      simp [List.append_assoc]
  · rw [if_neg hs] at h ⊢
    have hb := (allM_left G3').1
    rw [hb]
    refine ⟨?_, by simp, ?_, by simp, by simp, by simp⟩
    · unfold Fu.kindB Fu.three Fu.size Fu.extra
      simp [ht, ho, hp]
      omega
    · unfold Fu.mid
      simp only [Int.toNat_natCast, k1, k2, k3, if_true]
      rw [q0, q1, q2]
      simp [List.append_assoc]
theorem all_nought : ∀ (l : List UInt8), (∀ c ∈ l, c = 0) → l = List.replicate l.length 0
  | [], _ => rfl
  | a :: l, h => by
    rw [List.length_cons, List.replicate_succ, h a (List.mem_cons_self ..), ← all_nought l (fun c hc => h c (List.mem_cons_of_mem _ hc))]
theorem readFr_back (s : List UInt8) (h : (readFrM s).2 = none) : (readFrM s).1.okB = true ∧ ∃ k, s = (readFrM s).1.bytes ++ List.replicate k 0 ∧ ((readFrM s).1.kind = 1 → k = 0) := by
  unfold readFrM at h ⊢
  split at h
  · cases h
  rename_i hlen
  rw [if_neg hlen]
  simp only [] at h ⊢
  obtain ⟨l, R', p', n, ht⟩ : ∃ l R' p' n, tagsM 4 (numM (bytesM (bytesM (newM s 0) 6).2 6).2 2).2 (bytesM (bytesM (newM s 0) 6).2 6).2.place (numM (bytesM (bytesM (newM s 0) 6).2 6).2 2).1 [] = (l, R', p', n) := ⟨_, _, _, _, rfl⟩
  rw [ht] at h ⊢
  simp only [] at h ⊢
  have ok0 : (newM s 0).ok := ⟨Nat.zero_le _, by show 0 + s.length ≤ _; omega⟩
  have ok1 := ok0.bytes 6
  have ok2 := ok1.bytes 6
  unfold endFrM at h ⊢
  cases he : R'.err with
  | some x => rw [he] at h; cases h
  | none =>
    rw [he] at h
    simp only [] at h ⊢
    obtain ⟨suf, rest, q1, q2, q3, q4, q5, q6, q7⟩ := tags_back 4 _ _ [] l R' p' n ok2 rfl (by simp) ht he
    rw [List.nil_append] at q1
    subst suf
    obtain ⟨c2, r2, l2, L2, e2, G2⟩ := bytesM_back ok1 q3.none
    obtain ⟨c1, r1, l1, L1, e1, G1⟩ := bytesM_back ok0 (bytesM_err q3.none)
    have G1' : (bytesM (newM s 0) 6).2.Left r1 := by rw [e1]; exact G1
    have G2' : (bytesM (bytesM (newM s 0) 6).2 6).2.Left r2 := by rw [e2]; exact G2
    have v1 : (bytesM (newM s 0) 6).1 = c1 := by rw [e1]
    have v2 : (bytesM (bytesM (newM s 0) 6).2 6).1 = c2 := by rw [e2]
    have w0 : s = c1 ++ r1 := by have := L1.left; simpa [newM] using this
    have w1 : r1 = c2 ++ r2 := G1'.left.symm.trans L2.left
    have w2 : r2 = _ := G2'.left.symm.trans q3.left
    rw [v1, v2]
    have hsl := congrArg List.length w0
    rw [w1, w2] at hsl
    simp only [List.length_append, l1, l2, tagb_len, beBytes_len] at hsl
    by_cases h1 : 1536 ≤ n
    · rw [if_pos h1]
      rw [(allM_left q4).1]
      have hb : Fu.bytes ⟨Ad.of c1, Ad.of c2, l, 1, (n : Int), 0, 0, 0, 0, 0, rest⟩ = s := by
        unfold Fu.bytes Fu.mid Fu.lt
        simp only [Int.toNat_natCast, Ad.list_of l1, Ad.list_of l2]
        simp only [if_true]
        rw [if_neg (by decide), if_neg (by decide), w0, w1, w2]
        rfl
      refine ⟨?_, 0, ?_, fun _ => rfl⟩
      · simp only [Fu.okB, Bool.and_eq_true, decide_eq_true_eq]
        refine ⟨q2, by omega, ?_, ?_⟩
        · show 14 + 4 * l.length + 0 + rest.length ≤ 2000; omega
        · unfold Fu.kindB Fu.three
          simp
          omega
      · rw [hb]; simp
    · rw [if_neg h1] at h ⊢
      by_cases h2 : 1500 < n
      · rw [if_pos h2] at h; cases h
      rw [if_neg h2] at h ⊢
      cases h3 : (longM ⟨Ad.of (bytesM (newM s 0) 6).1, Ad.of (bytesM (bytesM (newM s 0) 6).2 6).1, l, 0, 0, 0, 0, 0, 0, 0, []⟩ (subM R' n).1).2.err with
      | some x => rw [h3] at h; cases h
      | none =>
        rw [v1, v2] at h3 h
        rw [h3] at h ⊢
        simp only [] at h ⊢
        cases h4 : (zerosM (subM R' n).2).2.err with
        | some x => rw [h4] at h; cases h
        | none =>
          simp only []
          have hz := zerosM_err.2 h4
          have ok4 : (subM R' n).2.ok := q4.ok.bytes n
          obtain ⟨zr, Z1, Z2, _⟩ := zerosM_back ok4 hz
          obtain ⟨c, r, lc, Lc, ec, Gc⟩ := bytesM_back q4.ok (n := n) Z1.none
          have hr : rest = c ++ r := q4.left.symm.trans Lc.left
          have hrz : r = zr := by
            have : (subM R' n).2.Left r := by unfold subM; rw [ec]; exact Gc
            exact this.left.symm.trans Z1.left
          subst hrz
          subst lc
          obtain ⟨S1, S2⟩ := sub_left Lc
          obtain ⟨k1, k2, k3, k4, k5, k6⟩ := long_back S1 h3 rfl rfl rfl (by omega)
          obtain ⟨F, hF⟩ : ∃ F, longM ⟨Ad.of c1, Ad.of c2, l, 0, 0, 0, 0, 0, 0, 0, []⟩ (subM R' c.length).1 = F := ⟨_, rfl⟩
          rw [hF] at k1 k2 k3 k4 k5 k6 ⊢
          have hs5 := (Fu.lt_ok k1).2.2.2.2 k2
          have hcl := congrArg List.length k3
          rw [List.length_append, Fu.mid_len] at hcl
          have hlt : F.1.lt = c.length := by rw [hs5.2]; exact hcl
          have hrl := congrArg List.length hr
          rw [List.length_append] at hrl
          have hb : F.1.bytes ++ r = s := by
            unfold Fu.bytes
            rw [k4, k5, k6, Ad.list_of l1, Ad.list_of l2, hlt, k3, w0, w1, w2, hr]
            simp [List.append_assoc]
          refine ⟨?_, r.length, ?_, fun h => absurd h k2⟩
          · simp only [Fu.okB, Bool.and_eq_true, decide_eq_true_eq]
            have hbl := congrArg List.length hb
            rw [List.length_append, Fu.bytes_len] at hbl
            refine ⟨by rw [k6]; exact q2, by omega, by omega, k1⟩
          · rw [← all_nought r Z2]; exact hb.symm
/-! ### Cut -/
theorem Cut.err {R : RS} {l : List UInt8} (h : Cut R l) (he : R.err ≠ none) : ∃ p, R.err = some (7, p) := by
  rcases h with ⟨r, hL, _⟩ | h
  · exact absurd hL.none he
  · exact h
theorem tags_cut : ∀ (suf : List Tk) (fuel : Nat) (R : RS) (p : Nat) (pre : List Tk) (n : Nat) (rest : List UInt8), stackB (pre ++ suf) = true → suf.length < fuel → n < 65536 → n ≠ 33024 → n ≠ 34984 → Cut R (tagb suf ++ (beBytes n 2 ++ rest)) →
    ∃ l R' p' n', tagsM fuel (numM R 2).2 p (numM R 2).1 pre = (l, R', p', n') ∧ Cut R' rest ∧ (R'.err = none → n' = n)
  | [], f + 1, R, p, pre, n, rest, _, _, h1, h2, h3, hC => by
    have g : Cut R (beBytes n 2 ++ rest) := by simpa [tagb] using hC
    obtain ⟨C1, V1⟩ := g.num (beBytes_len _ 2)
    unfold tagsM
    by_cases he : (numM R 2).2.err = none
    · have hn : (numM R 2).1 = n := by rw [V1 he, beNum_beBytes 2 n (by omega)]
      rw [hn, if_neg (by intro h; omega)]
      exact ⟨_, _, _, _, rfl, C1, fun _ => rfl⟩
    · rw [if_neg (fun h => he h.1)]
      exact ⟨_, _, _, _, rfl, C1, fun h => absurd h he⟩
  | t :: suf, f + 1, R, p, pre, n, rest, hs, hf, h1, h2, h3, hC => by
    have g : Cut R (beBytes t.kind 2 ++ (beBytes t.num 2 ++ (tagb suf ++ (beBytes n 2 ++ rest)))) := by simpa [tagb, Tk.bytes, List.append_assoc] using hC
    have hs' : stackB ((pre ++ [t]) ++ suf) = true := by rw [List.append_assoc]; exact hs
    have hok : t.okB = true := stack_ok hs t (by simp)
    have hkl : t.kind < 65536 := by unfold Tk.kind; split <;> decide
    have hk2 : t.kind = 33024 ∨ t.kind = 34984 := by unfold Tk.kind; split <;> simp
    have hks : decide (t.kind = 34984) = t.s := by unfold Tk.kind; cases t.s <;> rfl
    obtain ⟨C1, V1⟩ := g.num (beBytes_len _ 2)
    obtain ⟨C2, V2⟩ := C1.num (beBytes_len _ 2)
    unfold tagsM
    by_cases he : (numM R 2).2.err = none
    · have hn : (numM R 2).1 = t.kind := by rw [V1 he, beNum_beBytes 2 _ (by omega)]
      rw [hn, if_pos ⟨he, hk2⟩]
      by_cases he2 : (numM (numM R 2).2 2).2.err = none
      · have hn2 : (numM (numM R 2).2 2).1 = t.num := by rw [V2 he2, beNum_beBytes 2 _ (Tk.num_lt hok)]
        rw [hn2, if_neg (by rw [he2]; simp), if_neg (unpack_num hok).2, hks, (unpack_num hok).1, if_neg (by rw [stack_pre hs']; simp)]
        exact tags_cut suf f _ _ (pre ++ [t]) n rest hs' (by simp only [List.length_cons] at hf; omega) h1 h2 h3 C2
      · rw [if_pos he2]
        obtain ⟨q, hq⟩ := C2.err he2
        exact ⟨_, _, _, _, rfl, Cut.had hq, fun h => absurd h he2⟩
    · rw [if_neg (fun h => he h.1)]
      obtain ⟨q, hq⟩ := C1.err he
      exact ⟨_, _, _, _, rfl, Cut.had hq, fun h => absurd h he⟩
theorem long_had {f : Fu} {R : RS} {x : Int × Int} (h : R.err = some x) : (longM f R).2.err = some x := by
  unfold longM
  simp only [beNum_nil' h]
  rw [if_neg (by decide)]
  unfold allM
  rw [bytesM_had h]
  exact h
theorem cut_head {s : List UInt8} {f : Fu} {rest : List UInt8} (hf : f.okB = true) (hl : s.length ≤ 2000) (hC : Cut (newM s 0) (f.dst.list ++ (f.src.list ++ (tagb f.tags ++ (beBytes f.lt 2 ++ rest))))) :
    ∃ g R' p n, readFrM s = endFrM g R' p n ∧ Cut R' rest ∧ (R'.err = none → n = f.lt) := by
  simp only [Fu.okB, Bool.and_eq_true, decide_eq_true_eq] at hf
  obtain ⟨hs, hb, hh, hK⟩ := hf
  obtain ⟨l1, l2, l3, l4, l5⟩ := Fu.lt_ok hK
  obtain ⟨C1, _⟩ := hC.bytes (Ad.len _)
  obtain ⟨C2, _⟩ := C1.bytes (Ad.len _)
  obtain ⟨l, R', p', n', e, C3, V⟩ := tags_cut f.tags 4 _ (bytesM (bytesM (newM s 0) 6).2 6).2.place [] f.lt rest hs (by have := stack_len hs; omega) l1 l2 l3 C2
  refine ⟨⟨Ad.of (bytesM (newM s 0) 6).1, Ad.of (bytesM (bytesM (newM s 0) 6).2 6).1, l, 0, 0, 0, 0, 0, 0, 0, []⟩, R', p', n', ?_, C3, V⟩
  unfold readFrM
  rw [if_neg (by omega)]
  simp only [e]
theorem endFr_had {g : Fu} {R : RS} {p n : Nat} {x : Int × Int} (h : R.err = some x) : endFrM g R p n = (Fu.zero, some x) := by
  unfold endFrM; rw [h]
theorem readFr_cut1 (f : Fu) (k : Nat) (hf : f.okB = true) (hk : k < f.bytes.length) (h1 : ¬ (f.kind = 1 ∧ f.head ≤ k)) : ∃ p, (readFrM (f.bytes.take k)).2 = some (7, p) := by
  have hbl : f.bytes.length ≤ 2000 := by
    have h := hf
    rw [Fu.bytes_len]
    simp only [Fu.okB, Bool.and_eq_true, decide_eq_true_eq] at h
    exact h.2.2.1
  have htl : (f.bytes.take k).length ≤ 2000 := by rw [List.length_take]; omega
  have hK : f.kindB = true := by
    have h := hf
    simp only [Fu.okB, Bool.and_eq_true, decide_eq_true_eq] at h
    exact h.2.2.2
  by_cases hk1 : f.kind = 1
  · have hlt : k < f.head := Nat.lt_of_not_le fun h => h1 ⟨hk1, h⟩
    have hm : f.mid = [] := by unfold Fu.mid; rw [if_neg (by omega), if_neg (by omega)]
    have hx : f.extra = 0 := by rw [← Fu.mid_len, hm]; rfl
    have hal : f.ahead.length = f.head := by
      simp only [Fu.ahead, List.length_append, Ad.len, tagb_len, beBytes_len, Fu.head, hx]; omega
    have hb : f.bytes = f.ahead ++ f.body := by simp [Fu.bytes, Fu.ahead, hm, List.append_assoc]
    have ht : f.bytes.take k = f.ahead.take k := by rw [hb, List.take_append_of_le_length (by omega)]
    rw [ht] at htl ⊢
    have hC := Cut.new f.ahead k 0 (by omega) (by rw [hal]; have := Fu.bytes_len f; omega)
    obtain ⟨g, R', p, n, e, C, _⟩ := cut_head (rest := []) hf htl (by simpa [Fu.ahead, List.append_assoc] using hC)
    obtain ⟨q, hq⟩ := C.nil
    rw [e, endFr_had hq]
    exact ⟨q, rfl⟩
  · have hC := Cut.new f.bytes k 0 hk (by omega)
    obtain ⟨g, R', p, n, e, C, V⟩ := cut_head (rest := f.mid ++ f.body) hf htl hC
    rw [e]
    cases he : R'.err with
    | some x =>
      obtain ⟨q, hq⟩ := C.err (by rw [he]; simp)
      rw [endFr_had hq]
      exact ⟨q, rfl⟩
    | none =>
      have hn := V he
      subst hn
      obtain ⟨t1, t2⟩ := (Fu.lt_ok hK).2.2.2.2 hk1
      rcases C with ⟨r, hL, hlr, _⟩ | ⟨q, hq⟩
      · have hrl := hL.len
        have hml : (f.mid ++ f.body).length = f.lt := by rw [List.length_append, Fu.mid_len, t2, Fu.size]
        have hno := bytesM_no he (n := f.lt) (by omega)
        unfold endFrM
        rw [he]
        simp only []
        rw [if_neg (by omega), if_neg (by omega)]
        have hs : (subM R' f.lt).1.err = some (7, (R'.place : Int)) := by unfold subM; rw [hno]
        rw [long_had hs]
        exact ⟨_, rfl⟩
      · rw [hq] at he; cases he
theorem readFr_cut2 (f : Fu) (k : Nat) (hf : f.okB = true) (hk : k < f.bytes.length) (h1 : f.kind = 1) (h2 : f.head ≤ k) : (readFrM (f.bytes.take k)).2 = none := by
  have hm : f.mid = [] := by unfold Fu.mid; rw [if_neg (by omega), if_neg (by omega)]
  have hx : f.extra = 0 := by rw [← Fu.mid_len, hm]; rfl
  have hal : f.ahead.length = f.head := by
    simp only [Fu.ahead, List.length_append, Ad.len, tagb_len, beBytes_len, Fu.head, hx]; omega
  have hb : f.bytes = f.ahead ++ f.body := by simp [Fu.bytes, Fu.ahead, hm, List.append_assoc]
  have ht : f.bytes.take k = f.ahead ++ f.body.take (k - f.head) := by
    rw [hb, List.take_append, hal, List.take_of_length_le (by omega)]
  obtain ⟨g, hg⟩ : ∃ g : Fu, g = { f with body := f.body.take (k - f.head) } := ⟨_, rfl⟩
  have hgb : g.bytes = f.ahead ++ f.body.take (k - f.head) := by
    have : g.mid = [] := by rw [hg]; exact hm
    unfold Fu.bytes
    rw [this, hg]
    simp only [Fu.lt, h1]
    simp [Fu.ahead, Fu.lt, h1, List.append_assoc]
  have hgo : g.okB = true := by
    have h := hf
    simp only [Fu.okB, Bool.and_eq_true, decide_eq_true_eq] at h ⊢
    obtain ⟨a, b, c, d⟩ := h
    have hgl : g.body.length ≤ f.body.length := by rw [hg]; simp only [List.length_take]; omega
    refine ⟨by rw [hg]; exact a, by omega, ?_, ?_⟩
    · have : g.head = f.head := by rw [hg]; rfl
      omega
    · rw [hg]
      unfold Fu.kindB at d ⊢
      simp only [h1] at d ⊢
      exact d
  rw [ht, ← hgb, readFr_bytes0 g hgo]
end Go.Proofs.YteibhcocldihbaaDoor

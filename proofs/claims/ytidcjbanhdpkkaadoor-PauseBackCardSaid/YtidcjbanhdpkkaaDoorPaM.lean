/- A pause, as plain data: what is written, what is read. -/
import Derived.Test.YtidcjbanhdpkkaaDoorRsL
import Derived.Test.YtidcjbanhdpkkaaDoorPauseWrite
namespace Go.Proofs.YtidcjbanhdpkkaaDoor
structure Pa where
  pfc : Bool
  en : Int
  t0 : Int
  t1 : Int
  t2 : Int
  t3 : Int
  t4 : Int
  t5 : Int
  t6 : Int
  t7 : Int
deriving DecidableEq, Inhabited
def Pa.ts (x : Pa) : List Int := [x.t0, x.t1, x.t2, x.t3, x.t4, x.t5, x.t6, x.t7]
def Pa.nats (x : Pa) : List Nat := [x.t0.toNat, x.t1.toNat, x.t2.toNat, x.t3.toNat, x.t4.toNat, x.t5.toNat, x.t6.toNat, x.t7.toNat]
def Pa.of (b : Bool) (e : Int) (l : List Nat) : Pa := ⟨b, e, l.getD 0 0, l.getD 1 0, l.getD 2 0, l.getD 3 0, l.getD 4 0, l.getD 5 0, l.getD 6 0, l.getD 7 0⟩
def Pa.okB (x : Pa) : Bool := pauseRight x.pfc x.en x.ts
def Pa.bytes (x : Pa) : List UInt8 := if x.pfc = true then pfcBytes x.en.toNat x.nats else beBytes 1 2 ++ beBytes x.t0.toNat 2
theorem pOk_iff {b : Bool} {i : Nat} {t : Int} : pOk b i t = true ↔ 0 ≤ t ∧ t ≤ 65535 ∧ (b = true ∨ i = 0 ∨ t = 0) := by
  unfold pOk
  cases b <;> simp <;> omega
theorem Pa.ok_iff {x : Pa} : x.okB = true ↔ (∀ i < 8, pOk x.pfc i (x.ts.getD i 0) = true) ∧ 0 ≤ x.en ∧ x.en ≤ 255 ∧ (x.pfc = true ∨ x.en = 0) := by
  unfold Pa.okB pauseRight
  simp only [Bool.and_eq_true, List.all_eq_true, List.mem_range, decide_eq_true_eq, Bool.or_eq_true, beq_iff_eq]
  constructor
  · rintro ⟨h1, ⟨h2, h3⟩, h4⟩; exact ⟨h1, h2, h3, h4⟩
  · rintro ⟨h1, h2, h3, h4⟩; exact ⟨h1, ⟨h2, h3⟩, h4⟩
theorem Pa.ok_all {x : Pa} (h : x.okB = true) : ∀ t ∈ x.ts, 0 ≤ t ∧ t ≤ 65535 := by
  have h1 := (Pa.ok_iff.1 h).1
  intro t ht
  obtain ⟨i, hi, rfl⟩ := List.mem_iff_getElem.1 ht
  have hi8 : i < 8 := hi
  have := pOk_iff.1 (h1 i hi8)
  rw [List.getD_eq_getElem?_getD, List.getElem?_eq_getElem hi] at this
  exact ⟨this.1, this.2.1⟩
theorem Pa.nats_lt {x : Pa} (h : x.okB = true) : ∀ t ∈ x.nats, t ≤ 65535 := by
  have ha := Pa.ok_all h
  simp only [Pa.ts, Pa.nats, List.mem_cons, List.not_mem_nil, or_false, forall_eq_or_imp, forall_eq] at ha ⊢
  omega
theorem Pa.of_nats {x : Pa} (h : x.okB = true) (hp : x.pfc = true) : Pa.of true x.en x.nats = x := by
  have ha := Pa.ok_all h
  obtain ⟨b, e, t0, t1, t2, t3, t4, t5, t6, t7⟩ := x
  simp only [Pa.ts, List.mem_cons, List.not_mem_nil, or_false, forall_eq_or_imp, forall_eq] at ha
  simp only [] at hp
  subst hp
  simp only [Pa.of, Pa.nats, List.getD_cons_zero, List.getD_cons_succ, Pa.mk.injEq, true_and]
  omega
theorem Pa.plain {x : Pa} (h : x.okB = true) (hp : x.pfc = false) : Pa.of false 0 [x.t0.toNat] = x := by
  have ho := Pa.ok_iff.1 h
  obtain ⟨b, e, t0, t1, t2, t3, t4, t5, t6, t7⟩ := x
  simp only [] at hp
  subst hp
  have p0 := pOk_iff.1 (ho.1 0 (by decide))
  have p1 := pOk_iff.1 (ho.1 1 (by decide))
  have p2 := pOk_iff.1 (ho.1 2 (by decide))
  have p3 := pOk_iff.1 (ho.1 3 (by decide))
  have p4 := pOk_iff.1 (ho.1 4 (by decide))
  have p5 := pOk_iff.1 (ho.1 5 (by decide))
  have p6 := pOk_iff.1 (ho.1 6 (by decide))
  have p7 := pOk_iff.1 (ho.1 7 (by decide))
  have he := ho.2.2.2
  simp [Pa.ts] at p0 p1 p2 p3 p4 p5 p6 p7 he
  simp [Pa.of]
  omega
def numsM (R : RS) : Nat → List Nat × RS
  | 0 => ([], R)
  | k + 1 => ((numsM R k).1 ++ [(numM (numsM R k).2 2).1], (numM (numsM R k).2 2).2)
theorem numsM_len (R : RS) : ∀ k, (numsM R k).1.length = k
  | 0 => rfl
  | k + 1 => by simp [numsM, numsM_len R k]
theorem RS.ok.nums {R : RS} (h : R.ok) : ∀ k, (numsM R k).2.ok
  | 0 => h
  | k + 1 => (RS.ok.nums h k).num 2
theorem numsM_err {R : RS} : ∀ k, (numsM R k).2.err = none → R.err = none
  | 0, h => h
  | k + 1, h => numsM_err k (bytesM_err h)
theorem numsM_left {R : RS} {rest : List UInt8} (ts : List Nat) (h : R.Left (ts.flatMap (fun t => beBytes t 2) ++ rest)) (ht : ∀ t ∈ ts, t ≤ 65535) :
    ∀ k ≤ ts.length, numsM R k = (ts.take k, R.skip (2 * k)) ∧ (R.skip (2 * k)).Left ((ts.drop k).flatMap (fun t => beBytes t 2) ++ rest) := by
  intro k
  induction k with
  | zero => intro _; exact ⟨by simp [numsM, RS.skip], by simpa [RS.skip] using h⟩
  | succ k ih =>
    intro hk
    obtain ⟨e, L⟩ := ih (by omega)
    have hk' : k < ts.length := by omega
    rw [List.drop_eq_getElem_cons hk', List.flatMap_cons, List.append_assoc] at L
    have hlt := ht _ (List.getElem_mem hk')
    have hn := numM_be L (show ts[k] < 256 ^ 2 by omega)
    have hs := L.skip (beBytes_len _ 2)
    have hsk : (R.skip (2 * k)).skip 2 = R.skip (2 * (k + 1)) := by simp [RS.skip]; omega
    rw [hsk] at hn hs
    refine ⟨?_, hs⟩
    unfold numsM
    rw [e]
    simp only [hn]
    rw [List.take_succ_eq_append_getElem hk']
theorem numsM_back {R : RS} (hok : R.ok) : ∀ k, (numsM R k).2.err = none → ∃ rest, R.Left ((numsM R k).1.flatMap (fun t => beBytes t 2) ++ rest) ∧ (numsM R k).2.Left rest ∧ ∀ t ∈ (numsM R k).1, t ≤ 65535 := by
  intro k
  induction k with
  | zero => intro h; exact ⟨_, ⟨h, hok, rfl⟩, ⟨h, hok, rfl⟩, by simp [numsM]⟩
  | succ k ih =>
    intro h
    obtain ⟨r1, L1, G1, h1⟩ := ih (bytesM_err h)
    obtain ⟨c, r2, lc, L2, e2, G2⟩ := numM_back (hok.nums k) h
    have q : r1 = c ++ r2 := G1.left.symm.trans L2.left
    have hb : beBytes (beNum c) 2 = c := by rw [← lc]; exact beBytes_beNum c
    have hlt := beNum_lt c
    rw [lc] at hlt
    refine ⟨r2, ?_, ?_, ?_⟩
    · simp only [numsM, e2, List.flatMap_append, List.flatMap_cons, List.flatMap_nil, List.append_nil, hb, List.append_assoc]
      rw [← q]; exact L1
    · simp only [numsM]; rw [e2]; exact G2
    · intro t ht
      simp only [numsM, e2, List.mem_append, List.mem_singleton] at ht
      rcases ht with ht | rfl
      · exact h1 t ht
      · omega
def zPa : Pa := Pa.of false 0 []
def readPaM (s : List UInt8) : Pa × Bool × RS :=
  let o := numM (newM s 0) 2
  if o.2.err ≠ none then (zPa, zerosM o.2)
  else if o.1 = 1 then (Pa.of false 0 [(numM o.2 2).1], zerosM (numM o.2 2).2)
  else if o.1 = 257 then
    (Pa.of true ((numM o.2 2).1 : Int) (numsM (if 255 < (numM o.2 2).1 then failM (numM o.2 2).2 2 2 else (numM o.2 2).2) 8).1,
      zerosM (numsM (if 255 < (numM o.2 2).1 then failM (numM o.2 2).2 2 2 else (numM o.2 2).2) 8).2)
  else (zPa, zerosM (failM o.2 3 0))
theorem Pa.bytes_len (x : Pa) : x.bytes.length ≤ 20 := by
  unfold Pa.bytes pfcBytes
  split
  · simp only [List.length_append, beBytes_len, flatMap_len, Pa.nats, List.length_cons, List.length_nil]; omega
  · simp only [List.length_append, beBytes_len]; omega
theorem readPa_bytes (x : Pa) (pad : List UInt8) (hx : x.okB = true) (hz : ∀ c ∈ pad, c = 0) (hl : pad.length ≤ 1000000) : ∃ R, readPaM (x.bytes ++ pad) = (x, true, R) ∧ R.err = none := by
  have hlen := Pa.bytes_len x
  have ho := Pa.ok_iff.1 hx
  have hN : (newM (x.bytes ++ pad) 0).Left (x.bytes ++ pad) := newM_left _ 0 (by rw [List.length_append]; omega)
  unfold Pa.bytes at hN
  cases hp : x.pfc with
  | true =>
    rw [if_pos hp] at hN
    unfold pfcBytes at hN
    simp only [List.append_assoc] at hN
    have hN : (newM (x.bytes ++ pad) 0).Left (beBytes 257 2 ++ (beBytes x.en.toNat 2 ++ (x.nats.flatMap (fun t => beBytes t 2) ++ pad))) := by
      simpa [Pa.bytes, hp, pfcBytes] using hN
    have n1 := numM_be hN (by decide)
    have L1 := hN.skip (beBytes_len _ 2)
    have n2 := numM_be L1 (show x.en.toNat < 256 ^ 2 by omega)
    have L2 := L1.skip (beBytes_len _ 2)
    obtain ⟨n3, L3⟩ := numsM_left x.nats L2 (Pa.nats_lt hx) 8 (Nat.le_refl _)
    rw [show x.nats.take 8 = x.nats from rfl] at n3
    rw [show x.nats.drop 8 = [] from rfl] at L3
    obtain ⟨RR, hz3, hz4⟩ : ∃ RR, zerosM ((((newM (x.bytes ++ pad) 0).skip 2).skip 2).skip (2 * 8)) = (true, RR) ∧ RR.err = none := ⟨_, zerosM_left L3 hz, L3.none⟩
    refine ⟨RR, ?_, hz4⟩
    · unfold readPaM
      simp only [n1, n2]
      rw [if_neg (by rw [L1.none]; simp), if_neg (by decide), if_pos trivial, if_neg (by omega), n3]
      simp only []
      rw [show ((x.en.toNat : Nat) : Int) = x.en by omega, Pa.of_nats hx hp, hz3]
  | false =>
    have hN : (newM (x.bytes ++ pad) 0).Left (beBytes 1 2 ++ (beBytes x.t0.toNat 2 ++ pad)) := by
      rw [if_neg (by rw [hp]; decide)] at hN
      simpa [Pa.bytes, hp] using hN
    have hlt := Pa.nats_lt hx x.t0.toNat (by simp [Pa.nats])
    have n1 := numM_be hN (by decide)
    have L1 := hN.skip (beBytes_len _ 2)
    have n2 := numM_be L1 (show x.t0.toNat < 256 ^ 2 by omega)
    have L2 := L1.skip (beBytes_len _ 2)
    obtain ⟨RR, hz3, hz4⟩ : ∃ RR, zerosM (((newM (x.bytes ++ pad) 0).skip 2).skip 2) = (true, RR) ∧ RR.err = none := ⟨_, zerosM_left L2 hz, L2.none⟩
    refine ⟨RR, ?_, hz4⟩
    · unfold readPaM
      simp only [n1, n2]
      rw [if_neg (by rw [L1.none]; simp), if_pos trivial, Pa.plain hx hp, hz3]
theorem Pa.of_ok {e : Nat} {l : List Nat} (hl : l.length = 8) (he : e ≤ 255) (ht : ∀ t ∈ l, t ≤ 65535) : (Pa.of true e l).okB = true ∧ (Pa.of true e l).nats = l := by
  match l, hl with
  | [a, b, c, d, f, g, h, i], _ =>
    simp only [List.mem_cons, List.not_mem_nil, or_false, forall_eq_or_imp, forall_eq] at ht
    refine ⟨Pa.ok_iff.2 ⟨?_, by simp [Pa.of], by simp [Pa.of]; omega, .inl rfl⟩, rfl⟩
    intro j hj
    rw [pOk_iff]
    refine ⟨?_, ?_, .inl rfl⟩
    all_goals rcases j with _ | _ | _ | _ | _ | _ | _ | _ | j
    all_goals first | (exfalso; omega) | (simp [Pa.of, Pa.ts]; done) | (simp [Pa.of, Pa.ts]; omega)
theorem Pa.of_ok1 {e : Nat} (he : e ≤ 65535) : (Pa.of false 0 [e]).okB = true := by
  refine Pa.ok_iff.2 ⟨?_, by simp [Pa.of], by simp [Pa.of], .inr rfl⟩
  intro j hj
  rw [pOk_iff]
  rcases j with _ | _ | _ | _ | _ | _ | _ | _ | j
  all_goals first | (exfalso; omega) | (simp [Pa.of, Pa.ts]; done) | (simp [Pa.of, Pa.ts]; omega)
theorem readPa_back (s : List UInt8) (hs : s.length ≤ 4611686018427387904) (h : (readPaM s).2.1 = true) : (readPaM s).1.okB = true ∧ ∃ pad, s = (readPaM s).1.bytes ++ pad ∧ ∀ c ∈ pad, c = 0 := by
  have ok0 : (newM s 0).ok := ⟨Nat.zero_le _, by show 0 + s.length ≤ _; omega⟩
  have L0 : (newM s 0).Left s := newM_left s 0 (by omega)
  obtain ⟨o, ho⟩ : ∃ o, numM (newM s 0) 2 = o := ⟨_, rfl⟩
  have ok1 : o.2.ok := by rw [← ho]; exact ok0.num 2
  unfold readPaM at h ⊢
  simp only [ho] at h ⊢
  by_cases hE : o.2.err ≠ none
  · rw [if_pos hE] at h
    obtain ⟨x, hx⟩ := Option.ne_none_iff_exists'.1 hE
    have h : (zerosM o.2).1 = true := h
    rw [zerosM_had hx] at h; cases h
  · rw [if_neg hE] at h ⊢
    have hE' : o.2.err = none := by simpa using hE
    obtain ⟨c1, r1, l1, L1, e1, G1⟩ := numM_back ok0 (n := 2) (by rw [ho]; exact hE')
    have q0 : s = c1 ++ r1 := L0.left.symm.trans L1.left
    rw [e1] at ho
    subst ho
    simp only [] at h ok1 ⊢
    by_cases h1 : beNum c1 = 1
    · rw [if_pos h1] at h ⊢
      have h : (zerosM (numM ((newM s 0).skip 2) 2).2).1 = true := h
      obtain ⟨pad, GP, hp0, _⟩ := zerosM_back (ok1.num 2) h
      obtain ⟨c2, r2, l2, L2, e2, G2⟩ := numM_back ok1 (n := 2) GP.none
      have q1 : r1 = c2 ++ r2 := G1.left.symm.trans L2.left
      rw [e2] at GP ⊢
      have q2 : r2 = pad := G2.left.symm.trans GP.left
      have hlt := beNum_lt c2
      rw [l2] at hlt
      refine ⟨Pa.of_ok1 (by omega), pad, ?_, hp0⟩
      have b1 : beBytes 1 2 = c1 := by rw [← h1, ← l1]; exact beBytes_beNum c1
      have b2 : beBytes (beNum c2) 2 = c2 := by rw [← l2]; exact beBytes_beNum c2
      simp only [Pa.bytes, Pa.of, List.getD_cons_zero, Int.toNat_natCast, b1, b2]
      rw [q0, q1, q2]
      simp
    · rw [if_neg h1] at h ⊢
      by_cases h2 : beNum c1 = 257
      · rw [if_pos h2] at h ⊢
        obtain ⟨p, hp⟩ : ∃ p, numM ((newM s 0).skip 2) 2 = p := ⟨_, rfl⟩
        have ok2 : p.2.ok := by rw [← hp]; exact ok1.num 2
        simp only [hp] at h ⊢
        by_cases h3 : 255 < p.1
        · simp only [if_pos h3] at h
          have hF : (failM p.2 2 2).ok := ok2.fail _ _
          obtain ⟨pad, GP, hp0, _⟩ := zerosM_back (hF.nums 8) h
          exact (failM_back (numsM_err 8 GP.none)).elim
        · simp only [if_neg h3] at h ⊢
          obtain ⟨pad, GP, hp0, _⟩ := zerosM_back (ok2.nums 8) h
          have hn := numsM_err 8 GP.none
          obtain ⟨c2, r2, l2, L2, e2, G2⟩ := numM_back ok1 (n := 2) (by rw [hp]; exact hn)
          rw [e2] at hp
          subst hp
          simp only [] at h3 GP ok2 ⊢
          obtain ⟨r3, L3, G3, ht⟩ := numsM_back ok2 8 GP.none
          have q1 : r1 = c2 ++ r2 := G1.left.symm.trans L2.left
          have q2 := G2.left.symm.trans L3.left
          have q3 : r3 = pad := G3.left.symm.trans GP.left
          obtain ⟨k1, k2⟩ := Pa.of_ok (e := beNum c2) (numsM_len _ 8) (by omega) ht
          refine ⟨k1, pad, ?_, hp0⟩
          have b1 : beBytes 257 2 = c1 := by rw [← h2, ← l1]; exact beBytes_beNum c1
          have b2 : beBytes (beNum c2) 2 = c2 := by rw [← l2]; exact beBytes_beNum c2
          unfold Pa.bytes
          rw [if_pos (show (Pa.of true _ _).pfc = true from rfl), k2]
          unfold pfcBytes
          rw [show (Pa.of true (beNum c2 : Int) _).en.toNat = beNum c2 from Int.toNat_natCast _, b1, b2]
          refine q0.trans ?_
          rw [q1, q2, q3]
          simp only [List.append_assoc]
      · rw [if_neg h2] at h
        have h : (zerosM (failM ((newM s 0).skip 2) 3 0)).1 = true := h
        obtain ⟨pad, GP, hp0, _⟩ := zerosM_back (ok1.fail 3 0) h
        exact (failM_back GP.none).elim
end Go.Proofs.YtidcjbanhdpkkaaDoor

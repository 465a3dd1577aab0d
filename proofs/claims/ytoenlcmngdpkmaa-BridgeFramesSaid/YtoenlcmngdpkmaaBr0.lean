/- Bridges as plain data, and what holds of them. No program in sight. -/
import Derived.Test.YtoenlcmngdpkmaaLn0
namespace Go.Proofs.Ytoenlcmngdpkmaa
structure Tg where
  s : Bool
  pcp : Int
  dei : Bool
  vid : Int
deriving DecidableEq, Inhabited
structure PSet where
  pvid : Int
  ins : List Int
  bare : List Int
  state : Int
deriving DecidableEq, Inhabited
/-- A frame of the kind Ether, of type 0x800. -/
structure Fm where
  dst : Ad
  src : Ad
  tags : List Tg
  body : List UInt8
deriving DecidableEq, Inhabited
def vidAt (l : List Int) (i : Nat) : Bool := decide (1 ≤ l.getD i 0) && (decide (l.getD i 0 ≤ 4094) && (decide (i = 0) || decide (l.getD (i - 1) 0 < l.getD i 0)))
def vidsM (l : List Int) : Bool := (List.range l.length).all fun i => vidAt l i
def rightP (p : PSet) : Bool := decide (1 ≤ p.pvid) && (decide (p.pvid ≤ 4094) && (decide (1 ≤ p.state) && (decide (p.state ≤ 3) && (decide (p.ins.length ≤ 64) && (vidsM p.ins && (vidsM p.bare && !p.bare.any fun v => !decide (v ∈ p.ins)))))))
theorem vids_mem {l : List Int} (h : vidsM l = true) {v : Int} (hv : v ∈ l) : 1 ≤ v ∧ v ≤ 4094 := by
  obtain ⟨i, hi, rfl⟩ := List.getElem_of_mem hv
  unfold vidsM at h
  rw [List.all_eq_true] at h
  have h1 := h i (List.mem_range.2 hi)
  unfold vidAt at h1
  simp only [Bool.and_eq_true, decide_eq_true_eq, List.getD_eq_getElem?_getD, List.getElem?_eq_getElem hi, Option.getD_some] at h1
  exact ⟨h1.1, h1.2.1⟩
/-- What is known of a port that may be set so. -/
structure PortOk (p : PSet) : Prop where
  pvid : 1 ≤ p.pvid ∧ p.pvid ≤ 4094
  state : 1 ≤ p.state ∧ p.state ≤ 3
  few : p.ins.length ≤ 64
  ins : ∀ v ∈ p.ins, 1 ≤ v ∧ v ≤ 4094
theorem rightP_ok {p : PSet} (h : rightP p = true) : PortOk p := by
  unfold rightP at h
  simp only [Bool.and_eq_true, decide_eq_true_eq] at h
  exact ⟨⟨h.1, h.2.1⟩, ⟨h.2.2.1, h.2.2.2.1⟩, h.2.2.2.2.1, fun v hv => vids_mem h.2.2.2.2.2.1 hv⟩
/-- The VID that a frame says, or 0. -/
def sayM (p : PSet) (tags : List Tg) : Int := match tags with
  | [] => p.pvid
  | t :: _ => if t.s then 0 else if 0 < t.vid then t.vid else p.pvid
def vidM (p : PSet) (tags : List Tg) : Int := if sayM p tags ∈ p.ins then sayM p tags else 0
theorem vidM_range {p : PSet} (h : PortOk p) (tags : List Tg) : vidM p tags = 0 ∨ (1 ≤ vidM p tags ∧ vidM p tags ≤ 4094 ∧ vidM p tags ∈ p.ins) := by
  unfold vidM
  split
  · rename_i hm
    right
    exact ⟨(h.ins _ hm).1, (h.ins _ hm).2, hm⟩
  · left; rfl
def leaveM (f : Fm) (vid : Int) (bare : Bool) : Fm := ⟨f.dst, f.src, if bare then [] else [⟨false, (f.tags.head?.map (·.pcp)).getD 0, (f.tags.head?.map (·.dei)).getD false, vid⟩], f.body⟩
def goesM (vid : Int) (port : Nat) (only : Int) (q : PSet) (i : Nat) : Bool := !decide (i = port) && (decide (q.state = 3) && (decide (vid ∈ q.ins) && (decide (only < 0) || decide (only = (i : Int)))))
def outFrom (f : Fm) (vid : Int) (port : Nat) (only : Int) : Nat → List PSet → List (Nat × Fm)
  | _, [] => []
  | i, q :: r => if goesM vid port only q i then (i, leaveM f vid (decide (vid ∈ q.bare))) :: outFrom f vid port only (i + 1) r else outFrom f vid port only (i + 1) r
theorem outFrom_append (f : Fm) (vid : Int) (port : Nat) (only : Int) : ∀ (l m : List PSet) (i : Nat), outFrom f vid port only i (l ++ m) = outFrom f vid port only i l ++ outFrom f vid port only (i + l.length) m
  | [], m, i => by simp [outFrom]
  | q :: r, m, i => by
    have ih := outFrom_append f vid port only r m (i + 1)
    simp only [List.cons_append, outFrom, List.length_cons]
    rw [ih, show i + 1 + r.length = i + (r.length + 1) by omega]
    split <;> simp
theorem outFrom_take {f : Fm} {vid : Int} {port : Nat} {only : Int} {l : List PSet} {k : Nat} (hk : k < l.length) : outFrom f vid port only 0 (l.take (k + 1)) = outFrom f vid port only 0 (l.take k) ++ if goesM vid port only l[k] k then [(k, leaveM f vid (decide (vid ∈ l[k].bare)))] else [] := by
  rw [List.take_succ_eq_append_getElem hk, outFrom_append, List.length_take, Nat.min_eq_left (by omega), Nat.zero_add]
  simp [outFrom]
theorem outFrom_len (f : Fm) (vid : Int) (port : Nat) (only : Int) : ∀ (l : List PSet) (i : Nat), (outFrom f vid port only i l).length ≤ l.length
  | [], i => by simp [outFrom]
  | q :: r, i => by
    have ih := outFrom_len f vid port only r (i + 1)
    simp only [outFrom, List.length_cons]
    split
    · simp only [List.length_cons]; omega
    · omega
/-- Who leaves, leaves where it may. -/
theorem outFrom_mem {f : Fm} {vid : Int} {port : Nat} {only : Int} : ∀ {l : List PSet} {i : Nat} {x : Nat × Fm}, x ∈ outFrom f vid port only i l → ∃ j, ∃ h : j < l.length, x = (i + j, leaveM f vid (decide (vid ∈ l[j].bare))) ∧ goesM vid port only l[j] (i + j) = true
  | [], i, x, h => by simp [outFrom] at h
  | q :: r, i, x, h => by
    have rec_ : x ∈ outFrom f vid port only (i + 1) r → ∃ j, ∃ h : j < (q :: r).length, x = (i + j, leaveM f vid (decide (vid ∈ (q :: r)[j].bare))) ∧ goesM vid port only (q :: r)[j] (i + j) = true := fun h => by
      obtain ⟨j, hj, e, hg⟩ := outFrom_mem h
      refine ⟨j + 1, by simp only [List.length_cons]; omega, ?_, ?_⟩
      · rw [e]; simp only [List.getElem_cons_succ]; rw [show i + 1 + j = i + (j + 1) by omega]
      · simp only [List.getElem_cons_succ]; rw [show i + (j + 1) = i + 1 + j by omega]; exact hg
    simp only [outFrom] at h
    split at h
    · rename_i hg
      rcases List.mem_cons.1 h with rfl | h
      · exact ⟨0, by simp, rfl, hg⟩
      · exact rec_ h
    · exact rec_ h
/-- They rise. -/
theorem outFrom_ge {f : Fm} {vid : Int} {port : Nat} {only : Int} {l : List PSet} {i : Nat} {x : Nat × Fm} (h : x ∈ outFrom f vid port only i l) : i ≤ x.1 := by
  obtain ⟨j, _, e, _⟩ := outFrom_mem h
  rw [e]; exact Nat.le_add_right _ _
theorem outFrom_rise (f : Fm) (vid : Int) (port : Nat) (only : Int) : ∀ (l : List PSet) (i : Nat), (outFrom f vid port only i l).Pairwise fun x y => x.1 < y.1
  | [], i => by simp [outFrom]
  | q :: r, i => by
    have ih := outFrom_rise f vid port only r (i + 1)
    simp only [outFrom]
    split
    · refine List.pairwise_cons.2 ⟨fun y hy => ?_, ih⟩
      have := outFrom_ge hy
      show i < y.1
      omega
    · exact ih
/-- Where frames to one port alone go. -/
theorem outFrom_only (f : Fm) (vid : Int) (port k : Nat) : ∀ (l : List PSet) (i : Nat), (∀ q ∈ l, q.state = 3 ∧ vid ∈ q.ins) → i ≤ k → k < i + l.length → k ≠ port → (outFrom f vid port (k : Int) i l).map (·.1) = [k]
  | [], i, _, h1, h2, _ => by simp at h2; omega
  | q :: r, i, hq, h1, h2, hp => by
    have hq0 := hq q (List.mem_cons_self ..)
    simp only [outFrom]
    by_cases e : i = k
    · subst e
      have hg : goesM vid port (i : Int) q i = true := by
        unfold goesM
        simp [hp, hq0.1, hq0.2]
      rw [if_pos hg]
      have hn : outFrom f vid port (i : Int) (i + 1) r = [] := by
        rw [List.eq_nil_iff_forall_not_mem]
        intro x hx
        obtain ⟨j, hj, _, hg2⟩ := outFrom_mem hx
        unfold goesM at hg2
        simp only [Bool.and_eq_true, Bool.or_eq_true, decide_eq_true_eq] at hg2
        rcases hg2.2.2.2 with h | h <;> omega
      rw [hn]; rfl
    · have hg : goesM vid port (k : Int) q i = false := by
        unfold goesM
        have : ¬ ((k : Int) < 0) := by omega
        have h3 : ¬ ((k : Int) = (i : Int)) := by omega
        simp [this, h3]
      rw [if_neg (by rw [hg]; simp)]
      exact outFrom_only f vid port k r (i + 1) (fun q h => hq q (List.mem_cons_of_mem _ h)) (by omega) (by simp only [List.length_cons] at h2; omega) hp
theorem outFrom_self (f : Fm) (vid : Int) (port : Nat) (l : List PSet) (i : Nat) : outFrom f vid port (port : Int) i l = [] := by
  rw [List.eq_nil_iff_forall_not_mem]
  intro x hx
  obtain ⟨j, hj, _, hg⟩ := outFrom_mem hx
  unfold goesM at hg
  simp only [Bool.and_eq_true, Bool.or_eq_true, decide_eq_true_eq, Bool.not_eq_true', decide_eq_false_iff_not] at hg
  rcases hg.2.2.2 with h | h <;> omega
/-- The ports depend on neither the frame, nor how it is asked for who is not known. -/
theorem outFrom_same (f g : Fm) (vid : Int) (port : Nat) (a b : Int) (ha : a < 0) (hb : b < 0) : ∀ (l : List PSet) (i : Nat), (outFrom f vid port a i l).map (·.1) = (outFrom g vid port b i l).map (·.1)
  | [], _ => rfl
  | q :: r, i => by
    have ih := outFrom_same f g vid port a b ha hb r (i + 1)
    have hg : goesM vid port a q i = goesM vid port b q i := by unfold goesM; simp [ha, hb]
    simp only [outFrom]
    rw [hg]
    split
    · simp only [List.map_cons]; rw [ih]
    · exact ih
def resM (a : Ad) : Bool := decide (a.a = 1 ∧ a.b = 128 ∧ a.c = 194 ∧ a.d = 0 ∧ a.e = 0) && decide (a.f ≤ 15)
def manyM (a : Ad) : Bool := decide (a.a.toNat % 2 = 1)
/-- Does a bridge hear a frame? -/
def hearsM (p : PSet) (f : Fm) : Bool := !decide (p.state = 1) && (!decide (vidM p f.tags = 0) && !resM f.dst)
/-- What is known behind a frame, and of when. -/
def tabM (p : PSet) (port : Nat) (f : Fm) (t : Int) (k : List Ent × Int) : List Ent × Int := if hearsM p f then (learnM k.1 (vidM p f.tags) f.src port t 100, t) else k
def onlyM (p : PSet) (f : Fm) (t : Int) (es : List Ent) : Int := if manyM f.dst then -1 else lookM es (vidM p f.tags) f.dst t 100
def inM (ports : List PSet) (p : PSet) (port : Nat) (f : Fm) (t : Int) (es : List Ent) : List (Nat × Fm) := if hearsM p f && decide (p.state = 3) then outFrom f (vidM p f.tags) port (onlyM p f t es) 0 ports else []
/-- A trip. -/
structure Trp where
  port : Int
  src : Int
  dst : Int
  vid : Int
  after : Int
  many : Bool
instance : Inhabited Trp := ⟨⟨0, 0, 0, 0, 0, false⟩⟩
def fromM (k : Nat) : Ad := adOf k
def toM (k : Nat) (many : Bool) : Ad := if many then { adOf k with a := 3 } else adOf k
def bodyM : List UInt8 := [98, 111, 100, 121]
def carryM (t : Trp) : Fm := ⟨toM (pickN t.dst 60) t.many, adOf (pickN t.src 60), if pickN t.vid 4 = 0 then [] else [⟨false, 3, false, (pickN t.vid 4 : Int) - 1⟩], bodyM⟩
def servedM (ports : List PSet) (k : List Ent × Int) (now : Int) : List Trp → (List Ent × Int) × Int
  | [] => (k, now)
  | x :: r => servedM ports (tabM (ports.getD (pickN x.port ports.length) default) (pickN x.port ports.length) (carryM x) (now + (pickN x.after 20 : Nat)) k) (now + (pickN x.after 20 : Nat)) r
theorem served_append (ports : List PSet) : ∀ (l m : List Trp) (k : List Ent × Int) (now : Int), servedM ports k now (l ++ m) = servedM ports (servedM ports k now l).1 (servedM ports k now l).2 m
  | [], m, k, now => rfl
  | x :: r, m, k, now => by
    show servedM _ _ _ (r ++ m) = _
    rw [served_append ports r m]; rfl
theorem served_take {ports : List PSet} {l : List Trp} {k : Nat} (hk : k < l.length) {K : List Ent × Int} {now : Int} (h : servedM ports ([], 0) 0 (l.take k) = (K, now)) : servedM ports ([], 0) 0 (l.take (k + 1)) = (tabM (ports.getD (pickN l[k].port ports.length) default) (pickN l[k].port ports.length) (carryM l[k]) (now + (pickN l[k].after 20 : Nat)) K, now + (pickN l[k].after 20 : Nat)) := by
  rw [List.take_succ_eq_append_getElem hk, served_append, h]; rfl
/-- What holds of what is known. -/
def KnowOk (k : List Ent × Int) (now : Int) : Prop := TabOk k.1 k.2 ∧ 0 ≤ k.2 ∧ k.2 ≤ now
theorem KnowOk.nil : KnowOk ([], 0) 0 := ⟨TabOk.nil 0, Int.le_refl _, Int.le_refl _⟩
theorem tabM_ok {k : List Ent × Int} {now : Int} (h : KnowOk k now) (p : PSet) (port : Nat) (f : Fm) (t : Int) (hp : port ≤ 7) (ht : now ≤ t) : KnowOk (tabM p port f t k) t := by
  obtain ⟨h1, h2, h3⟩ := h
  unfold tabM
  split
  · exact ⟨learn_ok h1 _ _ _ _ _ (by omega) (by omega) (by omega) (by omega), by show 0 ≤ t; omega, Int.le_refl _⟩
  · exact ⟨h1, h2, by omega⟩
theorem served_ok (ports : List PSet) (h8 : ports.length ≤ 8) (h0 : 0 < ports.length) : ∀ (l : List Trp) (k : List Ent × Int) (now : Int), 0 ≤ now → KnowOk k now → KnowOk (servedM ports k now l).1 (servedM ports k now l).2 ∧ now ≤ (servedM ports k now l).2 ∧ (servedM ports k now l).2 ≤ now + 19 * l.length
  | [], k, now, hn, h => ⟨h, Int.le_refl _, by simp [servedM]⟩
  | x :: r, k, now, hn, h => by
    have hp := pickN_lt x.port ports.length h0
    have ha := pickN_lt x.after 20 (by omega)
    obtain ⟨h1, h2, h3⟩ := served_ok ports h8 h0 r _ (now + (pickN x.after 20 : Nat)) (by omega) (tabM_ok h (ports.getD (pickN x.port ports.length) default) (pickN x.port ports.length) (carryM x) (now + (pickN x.after 20 : Nat)) (by omega) (by omega))
    refine ⟨h1, ?_, ?_⟩
    · show now ≤ (servedM ports _ _ r).2; omega
    · show (servedM ports _ _ r).2 ≤ _
      simp only [List.length_cons]; omega
/-! ### More of the table -/
theorem mem_kept {es : List Ent} {vid : Int} {a : Ad} {now age : Int} {e : Ent} (h : e ∈ keptM es vid a now age) : e ∈ es := (kept_sub es vid a now age).subset h
/-- Who was just learned stays known behind one more. -/
theorem look_last {es : List Ent} {vid : Int} {a b : Ad} {p q now : Int} (hab : a ≠ b) : lookM (learnM (learnM es vid a p now 100) vid b q now 100) vid a now 100 = p := by
  have hx : keptM (learnM es vid a p now 100) vid b now 100 = (roomM (keptM es vid a now 100)).filter (fun e => !goneM vid b now 100 e) ++ [⟨vid, a, p, now⟩] := by
    unfold learnM
    unfold keptM
    rw [List.filter_append]
    have : (!goneM vid b now 100 ⟨vid, a, p, now⟩) = true := by unfold goneM Ent.is Ent.on; simp [hab]
    simp [this]
  have hf : ∀ e ∈ (roomM (keptM es vid a now 100)).filter (fun e => !goneM vid b now 100 e), e.is vid a = false := fun e he => (kept_is e (List.mem_filter.1 he).1).1
  have hr : ∃ X : List Ent, roomM (keptM (learnM es vid a p now 100) vid b now 100) = X ++ [⟨vid, a, p, now⟩] ∧ ∀ e ∈ X, e.is vid a = false := by
    rw [hx]
    generalize (roomM (keptM es vid a now 100)).filter (fun e => !goneM vid b now 100 e) = Y at *
    unfold roomM
    split
    · rename_i h32
      cases Y with
      | nil => simp at h32
      | cons y Y => exact ⟨Y, rfl, fun e he => hf e (List.mem_cons_of_mem _ he)⟩
    · exact ⟨Y, rfl, hf⟩
  obtain ⟨X, e1, hX⟩ := hr
  unfold lookM
  rw [learnM, e1, List.append_assoc, find_append_none (fun e he => by rw [hX e he]; rfl)]
  have h1 : Ent.is ⟨vid, a, p, now⟩ vid a = true := by simp [Ent.is]
  have h2 : Ent.on ⟨vid, a, p, now⟩ now 100 = true := by simp [Ent.on]
  simp [List.find?_cons, h1, h2]
/-- Who is not known is not known behind another one. -/
theorem look_not {es : List Ent} {vid : Int} {a b : Ad} {p now : Int} (hab : b ≠ a) (h : ∀ e ∈ es, 0 ≤ e.port) (hk : lookM es vid b now 100 < 0) : lookM (learnM es vid a p now 100) vid b now 100 < 0 := by
  have hn : es.find? (fun e => e.is vid b && e.on now 100) = none := by
    cases hf : es.find? (fun e => e.is vid b && e.on now 100) with
    | none => rfl
    | some e =>
      unfold lookM at hk
      rw [hf] at hk
      have := h e (List.mem_of_find?_eq_some hf)
      exact absurd hk (by simp only []; omega)
  rw [List.find?_eq_none] at hn
  have h2 : (learnM es vid a p now 100).find? (fun e => e.is vid b && e.on now 100) = none := by
    rw [List.find?_eq_none]
    intro e he
    unfold learnM at he
    rcases List.mem_append.1 he with he | he
    · exact hn e (mem_kept ((roomM_sub _).subset he))
    · rw [List.mem_singleton.1 he]
      have : Ent.is ⟨vid, a, p, now⟩ vid b = false := by simp [Ent.is, Ne.symm hab]
      simp [this]
  unfold lookM
  rw [h2]; decide
/-- To learn twice at once is to learn once. -/
theorem learn_twice {es : List Ent} {vid : Int} {a : Ad} {p now : Int} (hl : es.length ≤ 32) : learnM (learnM es vid a p now 100) vid a p now 100 = learnM es vid a p now 100 := by
  have h1 : keptM (learnM es vid a p now 100) vid a now 100 = roomM (keptM es vid a now 100) := by
    unfold learnM
    rw [keptM, List.filter_append]
    have e1 : [(⟨vid, a, p, now⟩ : Ent)].filter (fun e => !goneM vid a now 100 e) = [] := by simp [goneM, Ent.is]
    rw [e1, List.append_nil, List.filter_eq_self]
    intro e he
    have := kept_is e he
    unfold goneM
    rw [this.1, this.2]; rfl
  have h2 : (roomM (keptM es vid a now 100)).length ≤ 31 := roomM_len _ (Nat.le_trans (kept_sub es vid a now 100).length_le hl)
  have h3 : roomM (roomM (keptM es vid a now 100)) = roomM (keptM es vid a now 100) := by
    rw [show roomM (roomM (keptM es vid a now 100)) = if (roomM (keptM es vid a now 100)).length = 32 then (roomM (keptM es vid a now 100)).tail else roomM (keptM es vid a now 100) from rfl, if_neg (by omega)]
  rw [learnM, h1, h3]; rfl
end Go.Proofs.Ytoenlcmngdpkmaa

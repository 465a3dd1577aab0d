/- The table of addresses as plain data, and what holds of it. No program in sight. -/
import Derived.Test.YtoenlcmngdpkmaaAd
import Derived.Test.YtoenlcmngdpkmaaPick
namespace Go.Proofs.Ytoenlcmngdpkmaa
structure Ent where
  vid : Int
  ad : Ad
  port : Int
  tm : Int
deriving DecidableEq, Inhabited
def Ent.is (e : Ent) (vid : Int) (a : Ad) : Bool := decide (e.vid = vid) && decide (e.ad = a)
def Ent.on (e : Ent) (now age : Int) : Bool := decide (now - e.tm ≤ age)
def lookM (es : List Ent) (vid : Int) (a : Ad) (now age : Int) : Int := match es.find? (fun e => e.is vid a && e.on now age) with
  | some e => e.port
  | none => -1
def lenM (es : List Ent) (now age : Int) : Nat := (es.filter fun e => e.on now age).length
def goneM (vid : Int) (a : Ad) (now age : Int) (e : Ent) : Bool := !e.on now age || e.is vid a
def keptM (es : List Ent) (vid : Int) (a : Ad) (now age : Int) : List Ent := es.filter fun e => !goneM vid a now age e
def roomM (es : List Ent) : List Ent := if es.length = 32 then es.tail else es
def learnM (es : List Ent) (vid : Int) (a : Ad) (port now age : Int) : List Ent := roomM (keptM es vid a now age) ++ [⟨vid, a, port, now⟩]
def forgetM (es : List Ent) (port : Int) : List Ent := es.filter fun e => !decide (e.port = port)
/-- A lesson. -/
structure Less where
  vid : Int
  ad : Int
  port : Int
  after : Int
def adOf (k : Nat) : Ad := ⟨2, 0, 0, 0, UInt8.ofNat (k / 8), UInt8.ofNat k⟩
/-- The table behind some lessons, and the time then. -/
def taughtM (es : List Ent) (now : Int) : List Less → List Ent × Int
  | [] => (es, now)
  | x :: r => taughtM (learnM es (1 + (pickN x.vid 3 : Nat)) (adOf (pickN x.ad 60)) (pickN x.port 8 : Nat) (now + (pickN x.after 30 : Nat)) 100) (now + (pickN x.after 30 : Nat)) r
theorem taught_append : ∀ (l m : List Less) (es : List Ent) (now : Int), taughtM es now (l ++ m) = taughtM (taughtM es now l).1 (taughtM es now l).2 m
  | [], m, es, now => rfl
  | x :: r, m, es, now => by
    show taughtM _ _ (r ++ m) = _
    rw [taught_append r m]; rfl
/-- What holds of a table. -/
structure TabOk (es : List Ent) (now : Int) : Prop where
  len : es.length ≤ 32
  time : ∀ e ∈ es, 0 ≤ e.tm ∧ e.tm ≤ now
  port : ∀ e ∈ es, 0 ≤ e.port ∧ e.port ≤ 7
  keys : es.Pairwise fun e f => ¬ (e.vid = f.vid ∧ e.ad = f.ad)
theorem TabOk.nil (now : Int) : TabOk [] now := ⟨by simp, (fun e h => by cases h), (fun e h => by cases h), List.Pairwise.nil⟩
theorem roomM_sub (es : List Ent) : (roomM es).Sublist es := by
  unfold roomM
  split
  · exact List.tail_sublist es
  · exact List.Sublist.refl _
theorem roomM_len (es : List Ent) (h : es.length ≤ 32) : (roomM es).length ≤ 31 := by
  unfold roomM
  split
  · rw [List.length_tail]; omega
  · omega
theorem kept_sub (es : List Ent) (vid : Int) (a : Ad) (now age : Int) : (keptM es vid a now age).Sublist es := List.filter_sublist
theorem learn_ok {es : List Ent} {now : Int} (h : TabOk es now) (vid : Int) (a : Ad) (port t age : Int) (hp : 0 ≤ port) (hp7 : port ≤ 7) (ht : now ≤ t) (h0 : 0 ≤ t) : TabOk (learnM es vid a port t age) t := by
  have hs : (roomM (keptM es vid a t age)).Sublist es := (roomM_sub _).trans (kept_sub ..)
  have hl : (keptM es vid a t age).length ≤ 32 := Nat.le_trans (kept_sub es vid a t age).length_le h.len
  have hm : ∀ e ∈ roomM (keptM es vid a t age), e.is vid a = false := fun e he => by
    have h1 := (roomM_sub _).subset he
    unfold keptM at h1
    rw [List.mem_filter] at h1
    have h2 := h1.2
    unfold goneM at h2
    simp only [Bool.not_eq_true', Bool.or_eq_false_iff] at h2
    exact h2.2
  refine ⟨?_, ?_, ?_, ?_⟩
  · unfold learnM
    rw [List.length_append]
    have := roomM_len _ hl
    simp; omega
  · intro e he
    rcases List.mem_append.1 he with he | he
    · have := h.time e (hs.subset he); omega
    · rw [List.mem_singleton.1 he]; exact ⟨h0, Int.le_refl _⟩
  · intro e he
    rcases List.mem_append.1 he with he | he
    · exact h.port e (hs.subset he)
    · rw [List.mem_singleton.1 he]; exact ⟨hp, hp7⟩
  · unfold learnM
    rw [List.pairwise_append]
    refine ⟨h.keys.sublist hs, List.pairwise_singleton _ _, fun e he f hf => ?_⟩
    rw [List.mem_singleton.1 hf]
    have := hm e he
    unfold Ent.is at this
    intro hk
    simp [hk.1, hk.2] at this
theorem forget_ok {es : List Ent} {now : Int} (h : TabOk es now) (port : Int) : TabOk (forgetM es port) now := by
  have hs : (forgetM es port).Sublist es := List.filter_sublist
  exact ⟨Nat.le_trans hs.length_le h.len, fun e he => h.time e (hs.subset he), fun e he => h.port e (hs.subset he), h.keys.sublist hs⟩
theorem taught_ok : ∀ (l : List Less) (es : List Ent) (now : Int), 0 ≤ now → TabOk es now → TabOk (taughtM es now l).1 (taughtM es now l).2 ∧ now ≤ (taughtM es now l).2 ∧ (taughtM es now l).2 ≤ now + 29 * l.length ∧ (l ≠ [] → ∃ e ∈ (taughtM es now l).1, e.tm = (taughtM es now l).2)
  | [], es, now, h0, h => ⟨h, Int.le_refl _, by simp [taughtM], fun h => absurd rfl h⟩
  | x :: r, es, now, h0, h => by
    have hp := pickN_lt x.port 8 (by omega)
    have ha := pickN_lt x.after 30 (by omega)
    have hok := learn_ok h (1 + (pickN x.vid 3 : Nat)) (adOf (pickN x.ad 60)) (pickN x.port 8 : Nat) (now + (pickN x.after 30 : Nat)) 100 (by omega) (by omega) (by omega) (by omega)
    obtain ⟨h1, h2, h3, h4⟩ := taught_ok r _ (now + (pickN x.after 30 : Nat)) (by omega) hok
    have e : taughtM es now (x :: r) = taughtM (learnM es (1 + (pickN x.vid 3 : Nat)) (adOf (pickN x.ad 60)) (pickN x.port 8 : Nat) (now + (pickN x.after 30 : Nat)) 100) (now + (pickN x.after 30 : Nat)) r := rfl
    rw [e]
    refine ⟨h1, by omega, by simp only [List.length_cons]; omega, fun _ => ?_⟩
    cases r with
    | nil => exact ⟨⟨1 + (pickN x.vid 3 : Nat), adOf (pickN x.ad 60), (pickN x.port 8 : Nat), now + (pickN x.after 30 : Nat)⟩, List.mem_append_right _ (List.mem_singleton.2 rfl), rfl⟩
    | cons y s => exact h4 (by simp)
/-! ### The laws -/
theorem find_append_none {α : Type} {p : α → Bool} {l m : List α} (h : ∀ x ∈ l, p x = false) : (l ++ m).find? p = m.find? p := by
  rw [List.find?_append, List.find?_eq_none.2 (fun x hx => by rw [h x hx]; simp)]; rfl
theorem kept_is {es : List Ent} {vid : Int} {a : Ad} {now age : Int} : ∀ e ∈ roomM (keptM es vid a now age), e.is vid a = false ∧ e.on now age = true := fun e he => by
  have h1 := (roomM_sub _).subset he
  unfold keptM at h1
  rw [List.mem_filter] at h1
  have h2 := h1.2
  unfold goneM at h2
  simp only [Bool.not_eq_true', Bool.or_eq_false_iff, Bool.not_eq_false'] at h2
  exact ⟨h2.2, h2.1⟩
theorem look_learned (es : List Ent) (vid : Int) (a : Ad) (port now age : Int) (hage : 0 ≤ age) : lookM (learnM es vid a port now age) vid a now age = port := by
  unfold lookM learnM
  rw [find_append_none (fun e he => by rw [(kept_is e he).1]; rfl)]
  have : Ent.is ⟨vid, a, port, now⟩ vid a = true := by simp [Ent.is]
  have h2 : Ent.on ⟨vid, a, port, now⟩ now age = true := by simp [Ent.on, hage]
  simp [List.find?_cons, this, h2]
theorem find_filter {α : Type} (p q : α → Bool) : ∀ (l : List α), (∀ x ∈ l, p x = true → q x = true) → (l.filter q).find? p = l.find? p
  | [], _ => rfl
  | x :: l, h => by
    have ih := find_filter p q l (fun y hy => h y (List.mem_cons_of_mem _ hy))
    have hx := h x (List.mem_cons_self ..)
    cases hp : p x
    · cases hq : q x
      · simp [hp, hq, ih]
      · simp [hp, hq, ih]
    · simp [hp, hx hp]
theorem look_other {es : List Ent} {vid vid' : Int} {a b : Ad} {port now age : Int} (hab : ¬ (vid = vid' ∧ a = b)) (hroom : (keptM es vid a now age).length < 32) : lookM (learnM es vid a port now age) vid' b now age = lookM es vid' b now age := by
  have h1 : roomM (keptM es vid a now age) = keptM es vid a now age := by
    unfold roomM; rw [if_neg (by omega)]
  unfold lookM learnM
  rw [h1, List.find?_append]
  have hn : ([(⟨vid, a, port, now⟩ : Ent)]).find? (fun e => e.is vid' b && e.on now age) = none := by
    have : Ent.is ⟨vid, a, port, now⟩ vid' b = false := by
      unfold Ent.is
      by_cases e1 : vid = vid'
      · by_cases e2 : a = b
        · exact (hab ⟨e1, e2⟩).elim
        · simp [e2]
      · simp [e1]
    simp [this]
  rw [hn, Option.or_none]
  unfold keptM
  rw [find_filter _ _ es (fun e _ he => by
    simp only [Bool.and_eq_true] at he
    unfold goneM
    have h2 : e.is vid a = false := by
      have h3 := he.1
      unfold Ent.is at h3 ⊢
      simp only [Bool.and_eq_true, decide_eq_true_eq] at h3
      by_cases e1 : e.vid = vid
      · by_cases e2 : e.ad = a
        · exact (hab ⟨e1.symm.trans h3.1, e2.symm.trans h3.2⟩).elim
        · simp [e2]
      · simp [e1]
    simp [he.2, h2])]
theorem kept_known {es : List Ent} {vid : Int} {a : Ad} {now age : Int} (h : es.length ≤ 32) (hk : 0 ≤ lookM es vid a now age) : (keptM es vid a now age).length < 32 := by
  unfold lookM at hk
  cases hf : es.find? (fun e => e.is vid a && e.on now age) with
  | none => rw [hf] at hk; exact absurd hk (by decide)
  | some e =>
    have h1 := List.find?_some hf
    have h2 := List.mem_of_find?_eq_some hf
    simp only [Bool.and_eq_true] at h1
    have : (keptM es vid a now age).length < es.length := by
      unfold keptM
      rw [List.length_filter_lt_length_iff_exists]
      exact ⟨e, h2, by unfold goneM; simp [h1.1]⟩
    omega
theorem kept_few {es : List Ent} {vid : Int} {a : Ad} {now age : Int} (hn : lenM es now age < 32) : (keptM es vid a now age).length < 32 := by
  refine Nat.lt_of_le_of_lt ?_ hn
  unfold keptM lenM
  refine (List.Sublist.length_le ?_)
  have : es.filter (fun e => !goneM vid a now age e) = (es.filter fun e => e.on now age).filter (fun e => !e.is vid a) := by
    rw [List.filter_filter]
    refine List.filter_congr fun e _ => ?_
    unfold goneM
    cases e.on now age <;> cases e.is vid a <;> rfl
  rw [this]
  exact List.filter_sublist
theorem full_len {es : List Ent} {vid : Int} {a : Ad} {port now age : Int} (hl : es.length ≤ 32) (hage : 0 ≤ age) (hk : ¬ 0 ≤ lookM es vid a now age) (hp : ∀ e ∈ es, 0 ≤ e.port) (hn : 32 ≤ lenM es now age) : lenM (learnM es vid a port now age) now age = 32 := by
  have hall : ∀ e ∈ es, e.on now age = true := by
    have h1 : es.length ≤ (es.filter fun e => e.on now age).length := by unfold lenM at hn; omega
    have h2 : (es.filter fun e => e.on now age).length = es.length := Nat.le_antisymm (List.length_filter_le _ _) h1
    exact List.length_filter_eq_length_iff.1 h2
  have hnone : ∀ e ∈ es, e.is vid a = false := fun e he => by
    cases hc : e.is vid a
    · rfl
    · exfalso
      apply hk
      unfold lookM
      cases hf : es.find? (fun e => e.is vid a && e.on now age) with
      | none =>
        have := List.find?_eq_none.1 hf e he
        simp [hc, hall e he] at this
      | some f => exact hp f (List.mem_of_find?_eq_some hf)
  have hes : keptM es vid a now age = es := by
    unfold keptM
    rw [List.filter_eq_self]
    intro e he
    unfold goneM
    simp [hall e he, hnone e he]
  have hlen : es.length = 32 := by
    have : lenM es now age ≤ es.length := List.length_filter_le _ _
    omega
  unfold lenM learnM
  rw [hes]
  unfold roomM
  rw [if_pos hlen, List.filter_append, List.length_append]
  have h1 : (es.tail.filter fun e => e.on now age) = es.tail := List.filter_eq_self.2 (fun e he => hall e (List.mem_of_mem_tail he))
  have h2 : Ent.on ⟨vid, a, port, now⟩ now age = true := by simp [Ent.on, hage]
  rw [h1, List.length_tail, hlen]
  simp [h2]
theorem len_later {es : List Ent} {now later age : Int} (h : 0 ≤ later) : lenM es (now + later) age ≤ lenM es now age := by
  unfold lenM
  have : es.filter (fun e => e.on (now + later) age) = (es.filter fun e => e.on now age).filter (fun e => e.on (now + later) age) := by
    rw [List.filter_filter]
    refine List.filter_congr fun e _ => ?_
    unfold Ent.on
    by_cases c : now + later - e.tm ≤ age
    · have : now - e.tm ≤ age := by omega
      simp [c, this]
    · simp [c]
  rw [this]
  exact List.length_filter_le _ _
theorem len_late {es : List Ent} {now later : Int} (h : TabOk es now) (hl : 100 < later) : lenM es (now + later) 100 = 0 := by
  unfold lenM
  rw [List.length_eq_zero_iff, List.filter_eq_nil_iff]
  intro e he
  have := h.time e he
  unfold Ent.on
  simp; omega
theorem len_some {es : List Ent} {now : Int} (h : ∃ e ∈ es, e.tm = now) : 0 < lenM es now 100 := by
  obtain ⟨e, he, ht⟩ := h
  unfold lenM
  refine List.length_pos_of_mem (List.mem_filter.2 ⟨he, ?_⟩)
  unfold Ent.on
  rw [ht]; simp
theorem len_le (es : List Ent) (now age : Int) : lenM es now age ≤ es.length := List.length_filter_le _ _
/-- Who has a key is the only one. -/
theorem look_forget {es : List Ent} {now : Int} (h : TabOk es now) (port vid : Int) (a : Ad) (age : Int) (hp : 0 ≤ port) :
    (lookM (forgetM es port) vid a now age = lookM es vid a now age ∧ lookM es vid a now age ≠ port) ∨ (lookM es vid a now age = port ∧ lookM (forgetM es port) vid a now age = -1) := by
  have key : ∀ l : List Ent, (l.Pairwise fun e f => ¬ (e.vid = f.vid ∧ e.ad = f.ad)) → ((forgetM l port).find? (fun e => e.is vid a && e.on now age) = l.find? (fun e => e.is vid a && e.on now age) ∧ ∀ e, l.find? (fun e => e.is vid a && e.on now age) = some e → e.port ≠ port) ∨ (∃ e, l.find? (fun e => e.is vid a && e.on now age) = some e ∧ e.port = port ∧ (forgetM l port).find? (fun e => e.is vid a && e.on now age) = none) := by
    intro l
    induction l with
    | nil => intro _; left; exact ⟨rfl, fun e h => by cases h⟩
    | cons x l ih =>
      intro hpw
      rw [List.pairwise_cons] at hpw
      have ih := ih hpw.2
      cases hx : (x.is vid a && x.on now age)
      · have e1 : (x :: l).find? (fun e => e.is vid a && e.on now age) = l.find? (fun e => e.is vid a && e.on now age) := by simp [List.find?_cons, hx]
        have e2 : (forgetM (x :: l) port).find? (fun e => e.is vid a && e.on now age) = (forgetM l port).find? (fun e => e.is vid a && e.on now age) := by
          unfold forgetM
          rw [List.filter_cons]
          split
          · simp [List.find?_cons, hx]
          · rfl
        rw [e1, e2]; exact ih
      · have e1 : (x :: l).find? (fun e => e.is vid a && e.on now age) = some x := by simp [List.find?_cons, hx]
        by_cases hpx : x.port = port
        · right
          refine ⟨x, e1, hpx, ?_⟩
          rw [List.find?_eq_none]
          intro e he hc
          unfold forgetM at he
          rw [List.mem_filter] at he
          rcases List.mem_cons.1 he.1 with rfl | hl
          · simp [hpx] at he
          · have h1 := hpw.1 e hl
            simp only [Bool.and_eq_true] at hx hc
            have h2 := hx.1
            have h3 := hc.1
            unfold Ent.is at h2 h3
            simp only [Bool.and_eq_true, decide_eq_true_eq] at h2 h3
            exact h1 ⟨h2.1.trans h3.1.symm, h2.2.trans h3.2.symm⟩
        · left
          refine ⟨?_, fun e he => ?_⟩
          · rw [e1]
            unfold forgetM
            rw [List.filter_cons, if_pos (by simp [hpx])]
            simp [List.find?_cons, hx]
          · rw [e1] at he
            injection he with he
            rw [← he]; exact hpx
  unfold lookM
  rcases key es h.keys with ⟨k1, k2⟩ | ⟨e, k1, k2, k3⟩
  · left
    rw [k1]
    refine ⟨rfl, ?_⟩
    cases hf : es.find? (fun e => e.is vid a && e.on now age) with
    | none => show (-1 : Int) ≠ port; omega
    | some e => exact k2 e hf
  · right
    rw [k1, k3]
    exact ⟨k2, rfl⟩
end Go.Proofs.Ytoenlcmngdpkmaa

/- Addresses as texts: plain. -/
import Derived.Test.YtkicbabfgahmkaaDoorLacpM
import Derived.Test.YtkicbabfgahmkaaDoorLex
import Derived.Lib.SplitLaws
import Derived.Lib.Join
import Derived.Lib.Bytealg
import GoSem.Op.String
set_option linter.all false
namespace Go.Proofs.YtkicbabfgahmkaaDoor
def digs : List UInt8 := [48, 49, 50, 51, 52, 53, 54, 55, 56, 57, 97, 98, 99, 100, 101, 102]
def dig (n : Nat) : UInt8 := digs.getD n 0
def two (c : UInt8) : List UInt8 := [dig (c.toNat / 16), dig (c.toNat % 16)]
def Ad.text (a : Ad) : List UInt8 := Lib.join (a.list.map two) [58]
def six (a b c d e f : List UInt8) : List UInt8 := a ++ 58 :: (b ++ 58 :: (c ++ 58 :: (d ++ 58 :: (e ++ 58 :: f))))
theorem Ad.text_six (a : Ad) : a.text = six (two a.a) (two a.b) (two a.c) (two a.d) (two a.e) (two a.f) := rfl
theorem Ad.text_len (a : Ad) : a.text.length = 17 := rfl
/-- A text cut at its colons. -/
def sp : List UInt8 → List (List UInt8)
  | [] => [[]]
  | c :: r => if c = 58 then [] :: sp r else match sp r with
    | [] => [[c]]
    | x :: l => (c :: x) :: l
theorem sp_ne (s : List UInt8) : sp s ≠ [] := by
  cases s with
  | nil => simp [sp]
  | cons c r =>
    unfold sp
    split
    · simp
    · split <;> simp
theorem splitK_sp : ∀ s : List UInt8, Lib.splitK [58] 0 (Lib.count s [58]) s = sp s
  | [] => by rw [Lib.count_one]; rfl
  | c :: r => by
    have ih := splitK_sp r
    have hc : ∀ s : List UInt8, Lib.count s [58] = s.count 58 := Lib.count_one 58
    by_cases h : c = 58
    · subst h
      rw [Lib.count_cons_eq, Nat.add_comm]
      have hi : Lib.index ((58 : UInt8) :: r) [58] = 0 := by unfold Lib.index; simp [List.isPrefixOf]
      unfold Lib.splitK sp
      rw [hi]
      simp [ih]
    · rw [Lib.count_cons_ne c 58 r h]
      have hix : Lib.index (c :: r) [58] = if Lib.index r [58] == -1 then -1 else Lib.index r [58] + 1 := by
        rw [Lib.index]
        have : ([58] : List UInt8).isPrefixOf (c :: r) = false := by simp [List.isPrefixOf, Ne.symm h]
        rw [this]; simp
      have hge := Lib.index_ge r [58]
      unfold sp
      rw [if_neg h, ← ih]
      cases hk : Lib.count r [58] with
      | zero => rfl
      | succ k =>
        by_cases hm : Lib.index r [58] = -1
        · rw [Lib.count_miss hm] at hk; omega
        · obtain ⟨j, hj⟩ : ∃ j : Nat, Lib.index r [58] = j := ⟨(Lib.index r [58]).toNat, by omega⟩
          have hm' : ¬ ((j : Int) == -1) = true := by simp
          have h2 : Lib.index (c :: r) [58] = ((j + 1 : Nat) : Int) := by rw [hix, hj, if_neg hm']; omega
          have hm2 : ¬ (((j + 1 : Nat) : Int) == -1) = true := by rw [beq_iff_eq]; omega
          unfold Lib.splitK
          rw [h2, hj, if_neg hm', if_neg hm2]
          simp
theorem join_cons2 (x y : List UInt8) (r : List (List UInt8)) : Lib.join (x :: y :: r) [58] = x ++ 58 :: Lib.join (y :: r) [58] := by
  simp [Lib.join, List.intercalate, List.intersperse]
theorem join_sp : ∀ s : List UInt8, Lib.join (sp s) [58] = s
  | [] => rfl
  | c :: r => by
    have ih := join_sp r
    have hne := sp_ne r
    unfold sp
    cases hs : sp r with
    | nil => exact absurd hs hne
    | cons x l =>
      rw [hs] at ih
      by_cases h : c = 58
      · rw [if_pos h, join_cons2, ih, h]; rfl
      · rw [if_neg h]
        cases l with
        | nil => rw [Lib.join_one] at ih ⊢; rw [ih]
        | cons y l => rw [join_cons2] at ih ⊢; rw [← ih]; rfl
theorem sp_cons (c : UInt8) (r : List UInt8) : sp (c :: r) = if c = 58 then [] :: sp r else match sp r with
    | [] => [[c]]
    | x :: l => (c :: x) :: l := rfl
theorem sp_app (x r : List UInt8) (h : ∀ c ∈ x, c ≠ 58) : sp (x ++ 58 :: r) = x :: sp r := by
  induction x with
  | nil => simp [sp]
  | cons c x ih =>
    rw [List.cons_append, sp_cons, if_neg (h c (by simp)), ih (fun d hd => h d (by simp [hd]))]
theorem sp_none (x : List UInt8) (h : ∀ c ∈ x, c ≠ 58) : sp x = [x] := by
  induction x with
  | nil => rfl
  | cons c x ih =>
    rw [sp_cons, if_neg (h c (by simp)), ih (fun d hd => h d (by simp [hd]))]
theorem dig_ne : ∀ n : Fin 16, dig n.val ≠ 58 := by decide
theorem two_ne (c : UInt8) : ∀ d ∈ two c, d ≠ 58 := by
  intro d hd
  have hc := c.toNat_lt
  simp only [two, List.mem_cons, List.not_mem_nil, or_false] at hd
  rcases hd with rfl | rfl
  · exact dig_ne ⟨c.toNat / 16, by omega⟩
  · exact dig_ne ⟨c.toNat % 16, by omega⟩
theorem sp_text (a : Ad) : sp a.text = [two a.a, two a.b, two a.c, two a.d, two a.e, two a.f] := by
  rw [Ad.text_six]
  unfold six
  rw [sp_app _ _ (two_ne _), sp_app _ _ (two_ne _), sp_app _ _ (two_ne _), sp_app _ _ (two_ne _), sp_app _ _ (two_ne _), sp_none _ (two_ne _)]
/-- Two digits: the byte. -/
def hexI (c : UInt8) : Int := Lib.indexByte digs c
def pairM : List UInt8 → Option UInt8
  | [x, y] => if hexI x < 0 then none else if hexI y < 0 then none else some (UInt8.ofNat ((hexI x).toNat * 16 + (hexI y).toNat))
  | _ => none
theorem hexI_all : ∀ n : Fin 256, hexI (UInt8.ofNat n.val) < 16 ∧ -1 ≤ hexI (UInt8.ofNat n.val) ∧ (0 ≤ hexI (UInt8.ofNat n.val) → dig (hexI (UInt8.ofNat n.val)).toNat = UInt8.ofNat n.val) := by decide +kernel
theorem hexI_one (c : UInt8) : hexI c < 16 ∧ -1 ≤ hexI c ∧ (0 ≤ hexI c → dig (hexI c).toNat = c) := by
  have h := hexI_all ⟨c.toNat, c.toNat_lt⟩
  simpa using h
theorem hexI_dig : ∀ n : Fin 16, hexI (dig n.val) = n.val := by decide
theorem pair_two (c : UInt8) : pairM (two c) = some c := by
  have hc := c.toNat_lt
  unfold two pairM
  have e1 : hexI (dig (c.toNat / 16)) = (c.toNat / 16 : Nat) := hexI_dig ⟨c.toNat / 16, by omega⟩
  have e2 : hexI (dig (c.toNat % 16)) = (c.toNat % 16 : Nat) := hexI_dig ⟨c.toNat % 16, by omega⟩
  simp only [e1, e2]
  rw [if_neg (by omega), if_neg (by omega)]
  congr 1
  apply UInt8.toNat_inj.1
  rw [UInt8.toNat_ofNat']
  omega
theorem two_pair {l : List UInt8} {c : UInt8} (h : pairM l = some c) : two c = l := by
  match l, h with
  | [x, y], h =>
    unfold pairM at h
    dsimp only at h
    obtain ⟨a1, a2, a3⟩ := hexI_one x
    obtain ⟨b1, b2, b3⟩ := hexI_one y
    by_cases hx : hexI x < 0
    · rw [if_pos hx] at h; cases h
    · rw [if_neg hx] at h
      by_cases hy : hexI y < 0
      · rw [if_pos hy] at h; cases h
      · rw [if_neg hy] at h
        injection h with h
        have a4 := a3 (by omega)
        have b4 := b3 (by omega)
        have hn : c.toNat = (hexI x).toNat * 16 + (hexI y).toNat := by rw [← h, UInt8.toNat_ofNat']; omega
        unfold two
        rw [hn, show ((hexI x).toNat * 16 + (hexI y).toNat) / 16 = (hexI x).toNat by omega, show ((hexI x).toNat * 16 + (hexI y).toNat) % 16 = (hexI y).toNat by omega, a4, b4]
def pairs : List (List UInt8) → Option (List UInt8)
  | [] => some []
  | x :: r => match pairM x, pairs r with
    | some c, some l => some (c :: l)
    | _, _ => none
theorem pairs_snoc (L : List (List UInt8)) (x : List UInt8) (vs : List UInt8) (c : UInt8) (h : pairs L = some vs) (hx : pairM x = some c) : pairs (L ++ [x]) = some (vs ++ [c]) := by
  induction L generalizing vs with
  | nil =>
    simp only [pairs, Option.some.injEq] at h
    subst h
    simp [pairs, hx]
  | cons y L ih =>
    simp only [pairs, List.cons_append] at h ⊢
    cases hy : pairM y with
    | none => simp [hy] at h
    | some d =>
      cases hl : pairs L with
      | none => simp [hy, hl] at h
      | some l =>
        simp only [hy, hl, Option.some.injEq] at h
        subst h
        rw [ih l hl]; rfl
theorem pairs_none (L : List (List UInt8)) (k : Nat) (x : List UInt8) (hk : L[k]? = some x) (hx : pairM x = none) : pairs L = none := by
  induction L generalizing k with
  | nil => simp at hk
  | cons y L ih =>
    cases k with
    | zero =>
      simp only [List.getElem?_cons_zero, Option.some.injEq] at hk
      subst hk
      simp [pairs, hx]
    | succ k =>
      rw [List.getElem?_cons_succ] at hk
      simp only [pairs, ih k hk]
      cases pairM y <;> rfl
theorem pairs_len {L : List (List UInt8)} {l : List UInt8} (h : pairs L = some l) : l.length = L.length ∧ l.map two = L := by
  induction L generalizing l with
  | nil =>
    simp only [pairs, Option.some.injEq] at h
    subst h
    exact ⟨rfl, rfl⟩
  | cons y L ih =>
    simp only [pairs] at h
    cases hy : pairM y with
    | none => simp [hy] at h
    | some d =>
      cases hl : pairs L with
      | none => simp [hy, hl] at h
      | some m =>
        simp only [hy, hl, Option.some.injEq] at h
        subst h
        obtain ⟨a, b⟩ := ih hl
        exact ⟨by simp [a], by rw [List.map_cons, b, two_pair hy]⟩
theorem pairs_two (l : List UInt8) : pairs (l.map two) = some l := by
  induction l with
  | nil => rfl
  | cons c l ih => simp [pairs, pair_two, ih]
def Ad.ofText (s : List UInt8) : Option Ad := if (sp s).length = 6 then (pairs (sp s)).map Ad.of else none
theorem ofText_text (a : Ad) : Ad.ofText a.text = some a := by
  unfold Ad.ofText
  rw [show sp a.text = a.list.map two from sp_text a, pairs_two]
  rfl
theorem text_ofText {s : List UInt8} {a : Ad} (h : Ad.ofText s = some a) : a.text = s := by
  have hj := join_sp s
  unfold Ad.ofText at h
  by_cases hl : (sp s).length = 6
  · rw [if_pos hl] at h
    cases hp : pairs (sp s) with
    | none => rw [hp] at h; cases h
    | some l =>
      rw [hp] at h
      injection h with h
      obtain ⟨h1, h2⟩ := pairs_len hp
      rw [← h]
      unfold Ad.text
      rw [Ad.list_of (by omega), h2, hj]
  · rw [if_neg hl] at h; cases h
/- Less. -/
theorem less_lex : ∀ (a b : List UInt8), Op.bytesLess a b = decide (lexI (a.map fun c => (c.toNat : Int)) (b.map fun c => (c.toNat : Int)) < 0)
  | [], [] => rfl
  | [], _ :: _ => rfl
  | _ :: _, [] => rfl
  | x :: xs, y :: ys => by
    have ih := less_lex xs ys
    simp only [Op.bytesLess, List.map_cons, lexI, ih, UInt8.lt_iff_toNat_lt]
    by_cases h1 : x.toNat < y.toNat
    · simp [h1]
    · by_cases h2 : y.toNat < x.toNat
      · have : ¬ x = y := fun e => by subst e; omega
        simp [h1, h2, this]
      · have : x = y := UInt8.toNat_inj.1 (by omega)
        subst this
        simp
theorem dig_lt : ∀ i j : Fin 16, (dig i.val < dig j.val ↔ i.val < j.val) ∧ (dig i.val = dig j.val ↔ i.val = j.val) := by decide +kernel
theorem beq_dec {x y : UInt8} {p : Prop} [Decidable p] (h : x = y ↔ p) : (x == y) = decide p := by
  by_cases k : p
  · simp [k, h.2 k]
  · have : ¬ x = y := fun e => k (h.1 e)
    simp [k, this]
theorem less_two (c d : UInt8) (r s : List UInt8) : Op.bytesLess (two c ++ r) (two d ++ s) = (decide (c < d) || (c == d && Op.bytesLess r s)) := by
  have hc := c.toNat_lt
  have hd := d.toNat_lt
  obtain ⟨h1, h2⟩ := dig_lt ⟨c.toNat / 16, by omega⟩ ⟨d.toNat / 16, by omega⟩
  obtain ⟨h3, h4⟩ := dig_lt ⟨c.toNat % 16, by omega⟩ ⟨d.toNat % 16, by omega⟩
  simp only at h1 h2 h3 h4
  simp only [two, List.cons_append, List.nil_append, Op.bytesLess]
  rw [show (dig (c.toNat / 16) == dig (d.toNat / 16)) = decide (c.toNat / 16 = d.toNat / 16) from beq_dec h2,
    show (dig (c.toNat % 16) == dig (d.toNat % 16)) = decide (c.toNat % 16 = d.toNat % 16) from beq_dec h4]
  simp only [h1, h3, UInt8.lt_iff_toNat_lt]
  rw [show (c == d) = decide (c.toNat = d.toNat) from beq_dec UInt8.toNat_inj.symm]
  by_cases q1 : c.toNat / 16 < d.toNat / 16
  · have : c.toNat < d.toNat := by omega
    simp [q1, this]
  · by_cases q2 : c.toNat / 16 = d.toNat / 16
    · by_cases q3 : c.toNat % 16 < d.toNat % 16
      · have : c.toNat < d.toNat := by omega
        simp [q1, q2, q3, this]
      · by_cases q4 : c.toNat % 16 = d.toNat % 16
        · have e : c.toNat = d.toNat := by omega
          simp [q2, q4, e]
        · have e1 : ¬ c.toNat < d.toNat := by omega
          have e2 : ¬ c.toNat = d.toNat := by omega
          simp [q2, q3, q4, e1, e2]
    · have e1 : ¬ c.toNat < d.toNat := by omega
      have e2 : ¬ c.toNat = d.toNat := by omega
      simp [q1, q2, e1, e2]
theorem less_colon (r s : List UInt8) : Op.bytesLess (58 :: r) (58 :: s) = Op.bytesLess r s := by simp [Op.bytesLess]
theorem less_text (a b : Ad) : Op.bytesLess a.text b.text = Op.bytesLess a.list b.list := by
  rw [Ad.text_six, Ad.text_six]
  unfold six
  have e : ∀ c d : UInt8, Op.bytesLess (two c) (two d) = decide (c < d) := fun c d => by
    have := less_two c d [] []
    simpa [Op.bytesLess] using this
  rw [less_two, less_colon, less_two, less_colon, less_two, less_colon, less_two, less_colon, less_two, less_colon, e]
  simp [Ad.list, Op.bytesLess]
def Ad.less (a b : Ad) : Bool := Op.bytesLess a.list b.list
def Ad.key (a : Ad) : List Int := a.list.map fun c => (c.toNat : Int)
theorem Ad.less_key (a b : Ad) : a.less b = decide (lexI a.key b.key < 0) := less_lex _ _
theorem Ad.key_inj {a b : Ad} (h : a.key = b.key) : a = b := by
  apply Ad.inj
  have : ∀ (l m : List UInt8), (l.map fun c => (c.toNat : Int)) = m.map (fun c => (c.toNat : Int)) → l = m := by
    intro l
    induction l with
    | nil => intro m hm; cases m with
      | nil => rfl
      | cons y m => simp at hm
    | cons x l ih => intro m hm; cases m with
      | nil => simp at hm
      | cons y m =>
        simp only [List.map_cons, List.cons.injEq] at hm
        rw [u8_int hm.1, ih m hm.2]
  exact this _ _ h
theorem ad_order (a b c : Ad) : (((a.less b != b.less a) == (a != b)) && (!(a.less b && b.less a)) && (!a.less b || !b.less c || a.less c) && (a.less b == Op.bytesLess a.text b.text)) = true := by
  have hab : (a != b) = decide (lexI a.key b.key ≠ 0) := by
    by_cases h : a = b
    · subst h; simp [lexI_refl]
    · have : lexI a.key b.key ≠ 0 := fun e => h (Ad.key_inj (lexI_zero e))
      simp [h, this]
  have hn := lexI_neg a.key b.key
  have hr := lexI_range a.key b.key
  have ht : lexI a.key b.key < 0 → lexI b.key c.key < 0 → lexI a.key c.key < 0 := lexI_trans
  rw [less_text, hab]
  show ((_ && _ && _) && (a.less b == a.less b)) = true
  simp only [Ad.less_key, beq_self_eq_true, Bool.and_true]
  rw [hn] at ht hr ⊢
  generalize lexI b.key a.key = u at *
  generalize lexI b.key c.key = v at *
  generalize lexI a.key c.key = x at *
  by_cases h1 : u < 0
  · have h2 : ¬ -u < 0 := by omega
    have h3 : ¬ u = 0 := by omega
    have h5 : ¬ -u = 0 := by omega
    have h6 : ¬ 0 < u := by omega
    simp [h1, h2, h3, h5, h6]
  · by_cases h2 : u = 0
    · subst h2; simp
    · have h3 : -u < 0 := by omega
      have h9 : 0 < u := by omega
      by_cases h4 : v < 0
      · have := ht h3 h4
        simp [h1, h2, h3, h4, h9, this]
      · simp [h1, h2, h3, h4, h9]
end Go.Proofs.YtkicbabfgahmkaaDoor

/- prio: order, ports, Better, Less: each is the order of key lists. -/
import Derived.Test.YtkicbabfgahmkaaDoorRows
import Derived.Test.YtkicbabfgahmkaaDoorQuietTail
import Derived.Test.YtkicbabfgahmkaaDoorPrK
import Derived.Test.YtkicbabfgahmkaaDoorPb1
import Derived.Test.YtkicbabfgahmkaaDoorShelf
set_option linter.all false
namespace Go.Proofs.YtkicbabfgahmkaaDoor
open Go.RowKit
def Vec.vals (x : Vec) : List Value := x.root.vals ++ (.int .i64 x.cost :: (x.sender.vals ++ (x.port.vals ++ x.at_.vals)))
theorem compareInt_lex (x y : Int) (xs ys : List Int) : lexI (x :: xs) (y :: ys) = if Lib.compareInt x y = 0 then lexI xs ys else Lib.compareInt x y := by
  rw [show lexI (x :: xs) (y :: ys) = if x < y then -1 else if y < x then 1 else lexI xs ys from rfl]
  unfold Lib.compareInt
  by_cases h1 : x < y
  · simp [h1]
  · by_cases h2 : y < x
    · simp [h1, h2]
    · simp [h1, h2]
theorem compareBytes_lex : ∀ (a b : List UInt8), Lib.compareBytes a b = lexI (a.map fun c => (c.toNat : Int)) (b.map fun c => (c.toNat : Int))
  | [], [] => rfl
  | [], _ :: _ => rfl
  | _ :: _, [] => rfl
  | x :: xs, y :: ys => by
    simp only [Lib.compareBytes, List.map_cons, lexI, compareBytes_lex xs ys, UInt8.lt_iff_toNat_lt]
    by_cases h1 : x.toNat < y.toNat
    · simp [h1]
    · by_cases h2 : y.toNat < x.toNat
      · simp [h1, h2]
      · simp [h1, h2]
theorem order_eq (a b : Br) : orI [Lib.compareInt a.prio b.prio, Lib.compareInt a.ext b.ext, Lib.compareBytes a.ad.list b.ad.list] = lexI a.key b.key := by
  have e : lexI a.key b.key = lexI (a.prio :: a.ext :: a.ad.list.map fun c => (c.toNat : Int)) (b.prio :: b.ext :: b.ad.list.map fun c => (c.toNat : Int)) := rfl
  rw [e, compareInt_lex, compareInt_lex, ← compareBytes_lex]
  simp only [orI]
  generalize Lib.compareInt a.prio b.prio = u
  generalize Lib.compareInt a.ext b.ext = v
  generalize Lib.compareBytes a.ad.list b.ad.list = x
  by_cases h1 : u = 0 <;> by_cases h2 : v = 0 <;> by_cases h3 : x = 0 <;> simp [h1, h2, h3]
theorem ports_eq (a b : Pt) : orI [Lib.compareInt a.prio b.prio, Lib.compareInt a.no b.no] = lexI a.key b.key := by
  have e : lexI a.key b.key = lexI [a.prio, a.no] [b.prio, b.no] := rfl
  rw [e, compareInt_lex, compareInt_lex]
  simp only [orI, lexI]
theorem better_eq (a b : Vec) : orI [lexI a.root.key b.root.key, Lib.compareInt a.cost b.cost, lexI a.sender.key b.sender.key, lexI a.port.key b.port.key, lexI a.at_.key b.at_.key] = lexI a.key b.key := by
  unfold Vec.key
  rw [lexI_append (a := a.root.key) (a' := b.root.key) _ _ rfl, compareInt_lex, lexI_append (a := a.sender.key) (a' := b.sender.key) _ _ rfl, lexI_append (a := a.port.key) (a' := b.port.key) _ _ rfl]
  simp only [orI]
  generalize lexI a.root.key b.root.key = u
  generalize Lib.compareInt a.cost b.cost = v
  generalize lexI a.sender.key b.sender.key = x
  generalize lexI a.port.key b.port.key = y
  generalize lexI a.at_.key b.at_.key = z
  by_cases h1 : u = 0 <;> by_cases h2 : v = 0 <;> by_cases h3 : x = 0 <;> by_cases h4 : y = 0 <;> by_cases h5 : z = 0 <;> simp [h1, h2, h3, h4, h5]
theorem orI_take (xs : List Int) (k : Nat) (hk : k ≤ xs.length) (h : ∀ j, j < k → xs.getD j 0 = 0) : orI xs = orI (xs.drop k) := by
  induction k generalizing xs with
  | zero => simp
  | succ k ih =>
    cases xs with
    | nil => simp at hk
    | cons x r =>
      have h0 := h 0 (by omega)
      simp only [List.getD_cons_zero] at h0
      simp only [orI, h0, if_true, List.drop_succ_cons]
      exact ih r (by simpa using hk) (fun j hj => by have := h (j + 1) (by omega); simpa using this)
set_option maxHeartbeats 400000 in
/-- cmp.Or of a row of numbers. -/
theorem or_any (b cap : Nat) (xs : List Int) (w : World) (hn : xs.length ≤ 9223372036854775807) (hc : ∀ j, j < xs.length → w.cell? ⟨b, j, none⟩ = some (.int .i64 (xs.getD j 0))) :
    Calls Tryd.prog 57 #[.slice (some ⟨b, 0, none⟩) xs.length cap] w fun e w' => e = .returned (.int .i64 (orI xs)) ∧ w = w' := by
  have Hc := Lib.hid hc
  clear hc
  generalize hlen : xs.length = n at *
  have Hlen := Lib.hid hlen
  clear hlen
  go_enter Tryd.func57, Tryd.ntmps57
  go_wp2_with fail
  go_loop [5, 8] (fun _ i => ∃ k : Nat, k ≤ n ∧ i = .int .i64 k ∧ Hid (∀ j, j < k → xs.getD j 0 = 0)) (fun _ i => n - (intOf i).toNat)
  case atStart => exact ⟨0, by omega, rfl, Lib.hid (fun j hj => absurd hj (by omega))⟩
  case round =>
    obtain ⟨k, hk, rfl, Hz⟩ := hrel
    by_cases hlt : k < n
    · have hcell := Hc.out k hlt
      by_cases hx : xs.getD k 0 = 0
      · rw [hx] at hcell
        have Hx := Lib.hid hx
        clear hx
        go_wp2_with fail
        go_round
        case rel => exact ⟨k + 1, by omega, by go_num, Lib.hid (fun j hj => by
          by_cases e : j = k
          · rw [e]; exact Hx.out
          · exact Hz.out j (by omega))⟩
        case measure => simp [intOf]; omega
      · have ho : orI xs = xs.getD k 0 := by
          rw [orI_take xs k (by rw [Hlen.out]; omega) Hz.out]
          have hl : k < xs.length := by rw [Hlen.out]; exact hlt
          rw [List.drop_eq_getElem_cons hl]
          have e : xs[k] = xs.getD k 0 := by rw [List.getD_eq_getElem?_getD, List.getElem?_eq_getElem hl]; rfl
          simp only [orI]
          rw [e, if_neg hx]
        have Ho := Lib.hid ho
        clear ho
        generalize xs.getD k 0 = x at *
        have hx' : (x == (0 : Int)) = false := by simpa using hx
        have hx2 : (x != (0 : Int)) = true := by simpa using hx
        clear hx
        go_wp2_with fail
        go_ret
        exact ⟨by rw [Ho.out]; rfl, rfl⟩
    · have hkn : k = n := by omega
      subst hkn
      go_wp2_with fail
      go_ret
      exact ⟨ret_int (by rw [orI_take xs k (by rw [Hlen.out]; omega) Hz.out, List.drop_of_length_le (by rw [Hlen.out]; omega)]; rfl), rfl⟩
theorem or_new (xs : List Int) (n cap : Nat) (C : Array Value) (t : TypeId) (hn : xs.length = n) (hC : C = (xs.map (Value.int .i64)).toArray) (hb : n ≤ 100) (W : World) :
    Calls Tryd.prog 57 #[.slice (some ⟨W.heap.size, 0, none⟩) n cap] (W.alloc (.cells C t)) fun e w' => e = .returned (.int .i64 (orI xs)) ∧ Below W.heap.size W w' := by
  subst hn hC
  refine (or_any W.heap.size cap xs _ (by omega) (fun j hj => ?_)).mono ?_
  · rw [World.cell?_alloc_mark]
    simp [List.getElem?_eq_getElem hj]
  · rintro e w' ⟨rfl, rfl⟩
    exact ⟨rfl, (Below.refl _ _).alloc (Nat.le_refl _) _⟩
/-- 'string(a[:])' of an address in memory. -/
theorem addr_text (x : Ad) (b o : Nat) (W : World) (hc : ∀ j (h : j < 6), W.cell? ⟨b, o + j, none⟩ = some (.int .u8 (x.list[j]'h).toNat)) :
    (convert 83 9 (.slice (some ⟨b, o, none⟩) 6 6)).run Tryd.prog W = .ok (.string ⟨x.list.toArray⟩) W :=
  run_convert_bytes_back W 83 9 5 ⟨b, o, none⟩ 6 x.list Tryd.underlying83 Tryd.underlying5 Tryd.underlying9 (fun j hj => by rw [Addr.add_lit]; exact hc j hj)
theorem addr_text' (a b c d e f : UInt8) (g o : Nat) (W : World) (h0 : W.cell? ⟨g, o, none⟩ = some (.int .u8 a.toNat)) (h1 : W.cell? ⟨g, o + 1, none⟩ = some (.int .u8 b.toNat)) (h2 : W.cell? ⟨g, o + 2, none⟩ = some (.int .u8 c.toNat))
    (h3 : W.cell? ⟨g, o + 3, none⟩ = some (.int .u8 d.toNat)) (h4 : W.cell? ⟨g, o + 4, none⟩ = some (.int .u8 e.toNat)) (h5 : W.cell? ⟨g, o + 5, none⟩ = some (.int .u8 f.toNat)) :
    (convert 83 9 (.slice (some ⟨g, o, none⟩) 6 6)).run Tryd.prog W = .ok (.string ⟨#[a, b, c, d, e, f]⟩) W :=
  addr_text ⟨a, b, c, d, e, f⟩ g o W (fun j hj => match j, hj with
    | 0, _ => h0
    | 1, _ => h1
    | 2, _ => h2
    | 3, _ => h3
    | 4, _ => h4
    | 5, _ => h5)
set_option maxRecDepth 100000 in
set_option maxHeartbeats 1000000 in
theorem order_any (a b : Br) (w : World) :
    Calls Tryd.prog 56 #[.agg a.vals.toArray, .agg b.vals.toArray] w fun e w' => e = .returned (.int .i64 (lexI a.key b.key)) ∧ Below w.heap.size w w' := by
  have ho := order_eq a b
  have Ho := Lib.hid ho
  clear ho
  obtain ⟨p, x, ⟨a0, a1, a2, a3, a4, a5⟩⟩ := a
  obtain ⟨q, y, ⟨b0, b1, b2, b3, b4, b5⟩⟩ := b
  simp only [Br.vals, Ad.vals]
  go_enter Tryd.func56, Tryd.ntmps56
  go_wp2_with fail
  obtain ⟨hA, hB, _, _, lA, lB, hb⟩ := two_boxes w _ _ _ _ _ rfl
  generalize (w.alloc _).alloc _ = W at *
  have k1 : ∀ x : Ext W, (convert 83 9 (.slice (some ⟨w.heap.size, 2, none⟩) 6 6)).run Tryd.prog x.val = .ok (.string ⟨#[a0, a1, a2, a3, a4, a5]⟩) x.val :=
    fun x => addr_text' a0 a1 a2 a3 a4 a5 _ 2 x.val (by rw [x.cell _ _ lA, hA]; rfl) (by rw [x.cell _ _ lA, hA]; rfl) (by rw [x.cell _ _ lA, hA]; rfl) (by rw [x.cell _ _ lA, hA]; rfl) (by rw [x.cell _ _ lA, hA]; rfl) (by rw [x.cell _ _ lA, hA]; rfl)
  have k2 : ∀ x : Ext W, (convert 83 9 (.slice (some ⟨w.heap.size + 1, 2, none⟩) 6 6)).run Tryd.prog x.val = .ok (.string ⟨#[b0, b1, b2, b3, b4, b5]⟩) x.val :=
    fun x => addr_text' b0 b1 b2 b3 b4 b5 _ 2 x.val (by rw [x.cell _ _ lB, hB]; rfl) (by rw [x.cell _ _ lB, hB]; rfl) (by rw [x.cell _ _ lB, hB]; rfl) (by rw [x.cell _ _ lB, hB]; rfl) (by rw [x.cell _ _ lB, hB]; rfl) (by rw [x.cell _ _ lB, hB]; rfl)
  refine wp_region_ext_tail 17 (by kernel_rfl) (by kernel_rfl) ?_
  simp only [List.take_succ_cons, List.take_zero, List.drop_succ_cons, List.drop_zero]
  repeat (go_big_quiet_step (first
    | (go_at_call 58; exact Calls.ext_eq _ (Tryd.cmp_Compare_int _ _ _))
    | (go_at_call 70; exact Calls.ext_eq _ (Tryd.strings_Compare _ _ _))))
  refine wpQuiet_nil ?_
  rintro w' ⟨⟨W1, hb1⟩, rfl⟩
  clear k1 k2 hA hB
  try simp only [] at *
  go_wp2_with fail
  refine (or_new [Lib.compareInt p q, Lib.compareInt x y, Lib.compareBytes [a0, a1, a2, a3, a4, a5] [b0, b1, b2, b3, b4, b5]] 3 3 _ _ rfl rfl (by decide) w').mono ?_
  rintro e w2 ⟨rfl, hb2⟩
  go_wp2_with fail
  go_ret
  exact ⟨ret_int Ho.out, hb.trans ((hb1.mono hb.size).trans (hb2.mono (by have := hb.size; have := hb1.size; omega)))⟩
set_option maxRecDepth 100000 in
set_option maxHeartbeats 1000000 in
theorem ports_any (a b : Pt) (w : World) :
    Calls Tryd.prog 59 #[.agg a.vals.toArray, .agg b.vals.toArray] w fun e w' => e = .returned (.int .i64 (lexI a.key b.key)) ∧ Below w.heap.size w w' := by
  have ho := ports_eq a b
  have Ho := Lib.hid ho
  clear ho
  obtain ⟨p, x⟩ := a
  obtain ⟨q, y⟩ := b
  simp only [Pt.vals]
  go_enter Tryd.func59, Tryd.ntmps59
  go_wp2_with fail
  obtain ⟨hA, hB, _, _, lA, lB, hb⟩ := two_boxes w _ _ _ _ _ rfl
  generalize (w.alloc _).alloc _ = W at *
  refine wp_region_ext_tail 10 (by kernel_rfl) (by kernel_rfl) ?_
  simp only [List.take_succ_cons, List.take_zero, List.drop_succ_cons, List.drop_zero]
  repeat (go_big_quiet_step ((go_at_call 58; exact Calls.ext_eq _ (Tryd.cmp_Compare_int _ _ _))))
  refine wpQuiet_nil ?_
  rintro w' ⟨⟨W1, hb1⟩, rfl⟩
  clear hA hB
  try simp only [] at *
  go_wp2_with fail
  refine (or_new [Lib.compareInt p q, Lib.compareInt x y] 2 2 _ _ rfl rfl (by decide) w').mono ?_
  rintro e w2 ⟨rfl, hb2⟩
  go_wp2_with fail
  go_ret
  exact ⟨ret_int Ho.out, hb.trans ((hb1.mono hb.size).trans (hb2.mono (by have := hb.size; have := hb1.size; omega)))⟩
end Go.Proofs.YtkicbabfgahmkaaDoor

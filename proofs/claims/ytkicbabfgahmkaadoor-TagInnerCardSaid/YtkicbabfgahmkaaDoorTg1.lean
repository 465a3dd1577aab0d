/- Tags: tag.Right, Stack, Pack, Unpack. (Printed by tools/mktg.py.) -/
import Derived.Test.YtkicbabfgahmkaaDoorTkM
import Derived.Test.YtkicbabfgahmkaaDoorPb3
import Derived.Test.YtkicbabfgahmkaaDoorOwn
import Derived.Test.YtkicbabfgahmkaaDoorItems
import Derived.Test.YtkicbabfgahmkaaDoorHeldG
import Derived.Test.YtkicbabfgahmkaaDoorRet2
set_option linter.all false
namespace Go.Proofs.YtkicbabfgahmkaaDoor
open Go.RowKit
def Tk.vals (t : Tk) : List Value := [.bool t.s, .int .i64 t.pcp, .bool t.dei, .int .i64 t.vid]
@[reducible] def zTk : List Value := [.bool false, .int .i64 0, .bool false, .int .i64 0]
theorem Tk.one (t : Tk) : ∀ v ∈ t.vals, v.oneCell' = true := fun v hv => by
  simp only [Tk.vals, List.mem_cons, List.not_mem_nil, or_false] at hv
  rcases hv with rfl | rfl | rfl | rfl <;> rfl
theorem Tk.len (t : Tk) : t.vals.length = 4 := rfl
theorem info39 : (Tryd.prog.info? 39).map (·.size) = some 4 := by kernel_rfl
set_option maxRecDepth 100000 in
set_option maxHeartbeats 1000000 in
theorem tkRight_any (t : Tk) (w : World) :
    Calls Tryd.prog 23 #[.agg t.vals.toArray] w fun e w' => e = .returned (.bool t.okB) ∧ Below w.heap.size w w' := by
  obtain ⟨s, p, d, v⟩ := t
  simp only [Tk.vals]
  by_cases h0 : 0 ≤ p
  rotate_left
  · go_enter Tryd.func23, Tryd.ntmps23
    go_wp2_with fail
    go_ret
    exact ⟨by unfold Tk.okB; simp [*] <;> intros <;> omega, by go_grown⟩
  by_cases h1 : p ≤ 7
  rotate_left
  · go_enter Tryd.func23, Tryd.ntmps23
    go_wp2_with fail
    go_ret
    exact ⟨by unfold Tk.okB; simp [*] <;> intros <;> omega, by go_grown⟩
  by_cases h2 : 0 ≤ v
  rotate_left
  · go_enter Tryd.func23, Tryd.ntmps23
    go_wp2_with fail
    go_ret
    exact ⟨by unfold Tk.okB; simp [*] <;> intros <;> omega, by go_grown⟩
  by_cases h3 : v ≤ 4094
  rotate_left
  · go_enter Tryd.func23, Tryd.ntmps23
    go_wp2_with fail
    go_ret
    exact ⟨by unfold Tk.okB; simp [*] <;> intros <;> omega, by go_grown⟩
  go_enter Tryd.func23, Tryd.ntmps23
  go_wp2_with fail
  go_ret
  exact ⟨by unfold Tk.okB; simp [*] <;> intros <;> omega, by go_grown⟩
theorem stack_bad {l : List Tk} {k : Nat} (hk : k < l.length) (h : (l[k]).okB = false ∨ (l.length = 2 ∧ (l[k]).s ≠ decide (k = 0))) : stackB l = false := by
  match l, k, hk, h with
  | [a], 0, _, h =>
    rcases h with h | ⟨h, _⟩
    · exact h
    · simp at h
  | [a, b], 0, _, h =>
    rcases h with h | ⟨_, h⟩
    · have h : a.okB = false := h
      simp [stackB, h]
    · have h : a.s ≠ true := h
      have : a.s = false := by simpa using h
      simp [stackB, this]
  | [a, b], 1, _, h =>
    rcases h with h | ⟨_, h⟩
    · have h : b.okB = false := h
      simp [stackB, h]
    · have h : b.s ≠ false := h
      have : b.s = true := by simpa using h
      simp [stackB, this]
  | _ :: _ :: _ :: _, _, _, _ => rfl
theorem stack_all {l : List Tk} (h : ∀ k (hk : k < l.length), (l[k]).okB = true ∧ (l.length = 2 → (l[k]).s = decide (k = 0))) : stackB l = decide (l.length ≤ 2) := by
  match l, h with
  | [], _ => rfl
  | [a], h =>
    have := (h 0 (by simp)).1
    simpa [stackB] using this
  | [a, b], h =>
    have h0 := h 0 (by simp)
    have h1 := h 1 (by simp)
    have e1 : a.okB = true := h0.1
    have e2 : b.okB = true := h1.1
    have e3 : a.s = true := h0.2 rfl
    have e4 : b.s = false := h1.2 rfl
    simp [stackB, e1, e2, e3, e4]
  | _ :: _ :: _ :: _, _ => simp [stackB]
set_option maxRecDepth 100000 in
set_option maxHeartbeats 2000000 in
theorem tkStack_any (l : List Tk) (A : Option Addr) (cap : Nat) (w : World) (hn : l.length ≤ 100000) (hr : SlRow w w.heap.size 4 A (l.map Tk.vals)) :
    Calls Tryd.prog 28 #[.slice A l.length cap] w fun e w' => e = .returned (.bool (stackB l)) ∧ Below w.heap.size w w' := by
  obtain ⟨n, hlen⟩ : ∃ n, l.length = n := ⟨_, rfl⟩
  rw [hlen] at hn ⊢
  have Hr := Lib.hid hr
  have Hlen := Lib.hid hlen
  clear hr hlen
  obtain ⟨sb, hsb⟩ : ∃ b, stackB l = b := ⟨_, rfl⟩
  have Hsb := Lib.hid hsb
  rw [hsb]
  clear hsb
  go_enter Tryd.func28, Tryd.ntmps28
  go_wp2_with fail
  go_loopw [3, 4, 7] (fun _ _ i wr => ∃ k : Nat, k ≤ n ∧ i = .int .i64 k ∧ Hid (∀ j (hj : j < l.length), j < k → (l[j]).okB = true ∧ (l.length = 2 → (l[j]).s = decide (j = 0))) ∧ Hid (Below w.heap.size w wr)) (fun _ _ i _ => n - (intOf i).toNat)
  case atStart => exact ⟨0, by omega, rfl, Lib.hid (fun j _ h => by omega), Lib.hid (Below.refl _ _)⟩
  case round =>
    obtain ⟨k, hk, rfl, Hok, Hb⟩ := hrel
    by_cases hlt : k < n
    · have hkx : k < l.length := by rw [Hlen.out]; exact hlt
      obtain ⟨g, o, rfl, hg, hc⟩ := Hr.out (by rw [List.length_map]; omega)
      have hc1 := hc k (by rw [List.length_map]; exact hkx)
      have e1 : (l.map Tk.vals)[k]'(by rw [List.length_map]; exact hkx) = l[k].vals := by simp
      rw [e1] at hc1
      have Hc1 := Lib.hid (rangeAt_below hc1 Hb.out hg)
      have hbad : (l[k].okB = false ∨ (n = 2 ∧ l[k].s ≠ decide (k = 0))) → sb = false := fun h => by
        rw [← Hsb.out]; exact stack_bad hkx (by rw [Hlen.out]; exact h)
      have hnext : l[k].okB = true → (n = 2 → l[k].s = decide (k = 0)) → ∀ j (hj : j < l.length), j < k + 1 → (l[j]).okB = true ∧ (l.length = 2 → (l[j]).s = decide (j = 0)) := fun h h2 j hj hjk => by
        by_cases e : j = k
        · subst e; exact ⟨h, fun q => h2 (by rw [← Hlen.out]; exact q)⟩
        · exact Hok.out j hj (by omega)
      have Hbad := Lib.hid hbad
      have Hnext := Lib.hid hnext
      clear hc hc1 e1 hbad hnext Hok
      generalize l[k] = t at *
      go_upto_region 4 with (first
        | ((with_reducible refine wpList_load_rng (ty := 39) (b := ?b1) (o := ?o1) (ds := ?ds1) t.vals ?hx1 ?hB1 ?hu1 ?hd1 ?hi1 ?hk1)
           case hx1 => rfl
           case hB1 => exact Hc1.out
           case hu1 => exact Tryd.underlying39
           case hd1 => rfl
           case hi1 => exact info39)
        | ((with_reducible refine wpList_store_blk (ty := 39) (b := ?b2) (o := ?o2) (t := 39) zTk t.vals ?hx2 ?hy2 ?hB2 ?ho2 ?hi2 ?h12 ?hk2)
           case hx2 => rfl
           case hy2 => rfl
           case hB2 => exact Blk.new wr zTk 39
           case ho2 => exact Nat.le_refl _
           case hi2 => exact info39
           case h12 => exact (Tk.one _)
           intro W4 hBW4 hoW4))
      obtain ⟨hb8, lPE⟩ := Only.fresh hoW4
      have HB4 := Lib.hid (Hb.out.trans (hb8.mono Hb.out.size))
      have BX := Lib.hid (Blk.box hBW4)
      have hS : Hid (∀ W, Below W4.heap.size W4 W → W.cell? ⟨wr.heap.size, 0, none⟩ = some (.bool t.s)) := Lib.hid (fun W hW => laterc ((Blk.box hBW4).cell 0) hW hBW4.lt)
      clear hBW4 hoW4 hb8 Hb Hc1
      generalize wr.heap.size = Q at *
      cases hto : t.okB
      · have HT : Hid (∀ W, Calls Tryd.prog 23 #[.agg t.vals.toArray] W fun e w' => e = .returned (.bool false) ∧ Below W.heap.size W w') := Lib.hid fun W => by rw [← hto]; exact tkRight_any t W
        have hsf := Hbad.out (.inl hto)
        clear hto
        go_wp2_with (first
          | (with_reducible refine wpList_load_rng (ty := 39) t.vals (by with_unfolding_all rfl) BX.out.range Tryd.underlying39 (by with_unfolding_all rfl) (by with_unfolding_all exact info39) ?_)
          | ((with_reducible refine (HT.out _).mono ?_)
             rintro e w5 ⟨rfl, hb5⟩
             have HB5 := Lib.hid (HB4.out.trans (hb5.mono HB4.out.size))
             clear hb5))
        go_ret
        exact ⟨by rw [hsf]; rfl, HB5.out⟩
      · have HT : Hid (∀ W, Calls Tryd.prog 23 #[.agg t.vals.toArray] W fun e w' => e = .returned (.bool true) ∧ Below W.heap.size W w') := Lib.hid fun W => by rw [← hto]; exact tkRight_any t W
        have Hto := Lib.hid hto
        clear hto
        by_cases hn2 : n = 2
        · have hn2' : ((n : Int) == 2) = true := by rw [hn2]; rfl
          have Hn2 := Lib.hid hn2
          clear hn2
          obtain ⟨zb, hzb⟩ : ∃ z, decide (k = 0) = z := ⟨_, rfl⟩
          have hz2 : ((k : Int) == 0) = zb := by
            rw [← hzb]
            by_cases h : k = 0
            · simp [h]
            · rw [decide_eq_false h, beq_eq_false_iff_ne]; omega
          have Hzb := Lib.hid hzb
          clear hzb
          obtain ⟨ts, hts⟩ : ∃ z, t.s = z := ⟨_, rfl⟩
          rw [hts] at hS Hbad Hnext
          clear hts
          by_cases he : ts = zb
          · subst he
            cases ts
            all_goals
              go_wp2_with (first
                | (with_reducible refine wpList_load_rng (ty := 39) t.vals (by with_unfolding_all rfl) BX.out.range Tryd.underlying39 (by with_unfolding_all rfl) (by with_unfolding_all exact info39) ?_)
                | ((with_reducible refine (HT.out _).mono ?_)
                   rintro e w5 ⟨rfl, hb5⟩
                   have HB5 := Lib.hid (HB4.out.trans (hb5.mono HB4.out.size))
                   have c5 := hS.out _ hb5
                   clear hb5))
              go_roundw
              case rel => exact ⟨k + 1, by omega, by go_num, Lib.hid (Hnext.out Hto.out (fun _ => by rw [Hzb.out])), HB5⟩
              case measure => simp [intOf]; omega
          · have hsf := Hbad.out (.inr ⟨Hn2.out, by rw [Hzb.out]; exact he⟩)
            cases ts <;> cases zb <;> first | exact absurd rfl he | skip
            all_goals
              clear he
              go_wp2_with (first
                | (with_reducible refine wpList_load_rng (ty := 39) t.vals (by with_unfolding_all rfl) BX.out.range Tryd.underlying39 (by with_unfolding_all rfl) (by with_unfolding_all exact info39) ?_)
                | ((with_reducible refine (HT.out _).mono ?_)
                   rintro e w5 ⟨rfl, hb5⟩
                   have HB5 := Lib.hid (HB4.out.trans (hb5.mono HB4.out.size))
                   have c5 := hS.out _ hb5
                   clear hb5))
              go_ret
              exact ⟨by rw [hsf]; rfl, HB5.out⟩
        · have hn2' : ((n : Int) == 2) = false := by rw [beq_eq_false_iff_ne]; omega
          go_wp2_with (first
            | (with_reducible refine wpList_load_rng (ty := 39) t.vals (by with_unfolding_all rfl) BX.out.range Tryd.underlying39 (by with_unfolding_all rfl) (by with_unfolding_all exact info39) ?_)
            | ((with_reducible refine (HT.out _).mono ?_)
               rintro e w5 ⟨rfl, hb5⟩
               have HB5 := Lib.hid (HB4.out.trans (hb5.mono HB4.out.size))
               have c5 := hS.out _ hb5
               clear hb5))
          go_roundw
          case rel => exact ⟨k + 1, by omega, by go_num, Lib.hid (Hnext.out Hto.out (fun h => absurd h hn2)), HB5⟩
          case measure => simp [intOf]; omega
    · obtain rfl : k = n := by omega
      have hall := stack_all (l := l) (fun j hj => Hok.out j hj (by rw [Hlen.out] at hj; exact hj))
      rw [Hsb.out, Hlen.out] at hall
      subst hall
      clear Hsb
      by_cases h2 : k ≤ 2
      · have h2' : (k : Int) ≤ 2 := by omega
        go_wp2_with fail
        go_ret
        exact ⟨by simp [h2], Hb.out⟩
      · have h2' : ¬ (k : Int) ≤ 2 := by omega
        go_wp2_with fail
        go_ret
        exact ⟨by simp [h2], Hb.out⟩
/-! Pack. -/
set_option maxRecDepth 100000 in
set_option maxHeartbeats 1000000 in
theorem tkPack_ok (t : Tk) (ht : t.okB = true) (w : World) :
    Calls Tryd.prog 24 #[.agg t.vals.toArray] w fun e w' => e = .returned (.tuple #[.int .i64 (t.num : Int), .nilIface]) ∧ Below w.heap.size w w' := by
  have HT : Hid (∀ W, Calls Tryd.prog 23 #[.agg t.vals.toArray] W fun e w' => e = .returned (.bool true) ∧ Below W.heap.size W w') := Lib.hid fun W => by rw [← ht]; exact tkRight_any t W
  have H0 := Lib.hid ((St.init w).alloc t.vals 39)
  obtain ⟨p0, p1, v0, v1⟩ := Tk.ok_iff.1 ht
  have hnum : t.num = t.pcp.toNat * 8192 + bitN t.dei * 4096 + t.vid.toNat := rfl
  obtain ⟨s, p, d, v⟩ := t
  simp only [] at p0 p1 v0 v1 hnum
  obtain ⟨p, rfl⟩ := Int.eq_ofNat_of_zero_le p0
  obtain ⟨v, rfl⟩ := Int.eq_ofNat_of_zero_le v0
  simp only [Int.toNat_natCast] at hnum
  have hor : bits .or .i64 ((p : Int) * 8192) (v : Int) = ((2 ^ 13 * p + v : Nat) : Int) := by
    rw [show (p : Int) * 8192 = ((2 ^ 13 * p : Nat) : Int) by omega]
    exact or_sum p 13 v (by omega) (by omega)
  rw [hnum]
  clear ht hnum
  cases d
  · have hn : p * 8192 + bitN false * 4096 + v = 2 ^ 13 * p + v := by unfold bitN; simp; omega
    rw [hn]
    clear hn
    generalize (2 ^ 13 * p + v : Nat) = q at *
    go_enter Tryd.func24, Tryd.ntmps24
    go_upto_region 1 with (fail)
    generalize World.alloc _ _ = w1 at *
    go_upto_region 3 with (first
      | (with_reducible refine wpList_load_rng (ty := 39) (Tk.vals ⟨s, p, false, v⟩) (by with_unfolding_all rfl) (Blk.box (H0.out.at 0 rfl)).range Tryd.underlying39 (by with_unfolding_all rfl) (by with_unfolding_all exact info39) ?_)
      | ((with_reducible refine (HT.out _).mono ?_)
         rintro e w2 ⟨rfl, hb2⟩
         have H2 := Lib.hid (H0.out.ext hb2)
         have c1 : w2.cell? ⟨w.heap.size, 1, none⟩ = some (.int .i64 (p : Int)) := (Blk.box (H2.out.at 0 rfl)).cell 1
         have c2 : w2.cell? ⟨w.heap.size, 2, none⟩ = some (.bool false) := (Blk.box (H2.out.at 0 rfl)).cell 2
         have c3 : w2.cell? ⟨w.heap.size, 3, none⟩ = some (.int .i64 (v : Int)) := (Blk.box (H2.out.at 0 rfl)).cell 3
         clear hb2))
    go_wp2_with fail
    go_ret2
    exact ⟨rfl, H2.out.below⟩
  · have hor2 : bits .or .i64 ((2 ^ 13 * p + v : Nat) : Int) 4096 = ((p * 8192 + bitN true * 4096 + v : Nat) : Int) := by
      have e1 : (2 ^ 13 * p + v) ||| 4096 = p * 8192 + 4096 + v := by
        rw [show 2 ^ 13 * p + v = 2 ^ 13 * p ||| v from Nat.two_pow_add_eq_or_of_lt (by omega) p]
        rw [Nat.or_assoc, Nat.or_comm v 4096]
        have e2 : 4096 ||| v = 4096 + v := by
          have := Nat.two_pow_add_eq_or_of_lt (i := 12) (b := v) (by omega) 1
          simpa using this.symm
        rw [e2]
        have := Nat.two_pow_add_eq_or_of_lt (i := 13) (b := 4096 + v) (by omega) p
        rw [← this]
        omega
      rw [show (4096 : Int) = ((4096 : Nat) : Int) from rfl, or_int _ _ (by omega) (by omega), e1]
      rfl
    generalize (p * 8192 + bitN true * 4096 + v : Nat) = z at *
    generalize (2 ^ 13 * p + v : Nat) = q at *
    go_enter Tryd.func24, Tryd.ntmps24
    go_upto_region 1 with (fail)
    generalize World.alloc _ _ = w1 at *
    go_upto_region 3 with (first
      | (with_reducible refine wpList_load_rng (ty := 39) (Tk.vals ⟨s, p, true, v⟩) (by with_unfolding_all rfl) (Blk.box (H0.out.at 0 rfl)).range Tryd.underlying39 (by with_unfolding_all rfl) (by with_unfolding_all exact info39) ?_)
      | ((with_reducible refine (HT.out _).mono ?_)
         rintro e w2 ⟨rfl, hb2⟩
         have H2 := Lib.hid (H0.out.ext hb2)
         have c1 : w2.cell? ⟨w.heap.size, 1, none⟩ = some (.int .i64 (p : Int)) := (Blk.box (H2.out.at 0 rfl)).cell 1
         have c2 : w2.cell? ⟨w.heap.size, 2, none⟩ = some (.bool true) := (Blk.box (H2.out.at 0 rfl)).cell 2
         have c3 : w2.cell? ⟨w.heap.size, 3, none⟩ = some (.int .i64 (v : Int)) := (Blk.box (H2.out.at 0 rfl)).cell 3
         clear hb2))
    go_wp2_with fail
    go_ret2
    exact ⟨rfl, H2.out.below⟩
theorem tk_built (s d : Bool) (p v : Int) : Tryd.prog.built 39 [(0, .bool s), (1, .int .i64 p), (2, .bool d), (3, .int .i64 v)] = some (Tk.vals ⟨s, p, d, v⟩).toArray := by kernel_rfl
theorem tk_built0 : Tryd.prog.built 39 [] = some (Tk.vals ⟨false, 0, false, 0⟩).toArray := by kernel_rfl
def unpV (s : Bool) (n : Nat) : Value := if n % 4096 = 4095 then .tuple #[.agg (Tk.vals ⟨false, 0, false, 0⟩).toArray, .iface 80 (.int .i64 3)] else .tuple #[.agg (unpackM s n).vals.toArray, .nilIface]
set_option maxRecDepth 100000 in
set_option maxHeartbeats 4000000 in
theorem tkUnpack_any (s : Bool) (n : Nat) (hn : n < 65536) (w : World) :
    Calls Tryd.prog 25 #[.bool s, .int .i64 (n : Int)] w fun e w' => e = .returned (unpV s n) ∧ Below w.heap.size w w' := by
  have H0 := Lib.hid ((St.init w).alloc zTk 39)
  have h0 : ¬ (n : Int) < 0 := by omega
  have h1 : ¬ (65535 : Int) < (n : Int) := by omega
  have hs1 : (n : Int) / 8192 = ((n / 8192 : Nat) : Int) := by omega
  have hs2 : (n : Int) / 4096 = ((n / 4096 : Nat) : Int) := by omega
  have ha1 : bits .and .i64 ((n / 4096 : Nat) : Int) 1 = ((n / 4096 % 2 : Nat) : Int) := and_mod (n / 4096) 1 (by omega) (by decide)
  have ha2 : bits .and .i64 (n : Int) 4095 = ((n % 4096 : Nat) : Int) := and_mod n 12 (by omega) (by decide)
  obtain ⟨d, hd⟩ : ∃ d, decide (n / 4096 % 2 = 1) = d := ⟨_, rfl⟩
  have hd2 : (((n / 4096 % 2 : Nat) : Int) == 1) = d := by
    rw [← hd]
    by_cases h : n / 4096 % 2 = 1
    · rw [h]; rfl
    · rw [decide_eq_false h, beq_eq_false_iff_ne]; omega
  obtain ⟨t, ht⟩ : ∃ t : Tk, unpackM s n = t := ⟨_, rfl⟩
  have ht' : (⟨s, ((n / 8192 : Nat) : Int), d, ((n % 4096 : Nat) : Int)⟩ : Tk) = t := by rw [← ht, ← hd]; rfl
  have TB : Tryd.prog.built 39 [(0, .bool s), (1, .int .i64 ((n / 8192 : Nat) : Int)), (2, .bool d), (3, .int .i64 ((n % 4096 : Nat) : Int))] = some t.vals.toArray := by rw [← ht']; exact tk_built _ _ _ _
  have hV : unpV s n = if n % 4096 = 4095 then .tuple #[.agg (Tk.vals ⟨false, 0, false, 0⟩).toArray, .iface 80 (.int .i64 3)] else .tuple #[.agg t.vals.toArray, .nilIface] := by unfold unpV; rw [ht]
  have hok : t.okB = decide (n % 4096 ≠ 4095) := by
    rw [← ht]
    by_cases h : n % 4096 = 4095
    · rw [show decide (n % 4096 ≠ 4095) = false by simp [h]]
      cases hq : (unpackM s n).okB
      · rfl
      · have := (Tk.ok_iff.1 hq).2.2.2
        unfold unpackM at this
        simp only [] at this
        omega
    · rw [(unpack_ok s hn h).1]; simp [h]
  have Htb := Lib.hid TB
  have HV := Lib.hid hV
  have Hok := Lib.hid hok
  rw [hV]
  clear hd ht ht' TB hV hok
  generalize n / 8192 = q1 at *
  generalize hq2 : n / 4096 % 2 = q2 at *
  generalize hq3 : n / 4096 = q3 at *
  generalize hq4 : n % 4096 = q4 at *
  clear hq2 hq3 hq4
  by_cases h : q4 = 4095
  · rw [if_pos h]
    have Hh := Lib.hid h
    clear h
    go_enter Tryd.func25, Tryd.ntmps25
    go_upto_region 1 with (fail)
    generalize World.alloc _ _ = w1 at *
    have H0 : Hid (St w.heap.size w w1 (bk w.heap.size 39 (Tk.vals ⟨false, 0, false, 0⟩) :: [])) := H0
    go_upto_region 4 with (first
      | (with_reducible refine wpList_buildA (t := 39) [(0, .bool s), (1, .int .i64 (q1 : Int)), (2, .bool d), (3, .int .i64 (q4 : Int))] t.vals (by with_unfolding_all rfl) Htb.out ?_)
      | (with_reducible refine wpList_store_blk (ty := 39) (o := 0) _ t.vals (by with_unfolding_all rfl) (by with_unfolding_all rfl) (Blk.new w1 zTk 39) (by with_unfolding_all exact Nat.le_refl _) (by with_unfolding_all exact info39) (Tk.one _) (fun W2 hBW2 hoW2 => ?_)))
    have H2 : Hid (St w.heap.size w W2 (bk w1.heap.size 39 t.vals :: bk w.heap.size 39 (Tk.vals ⟨false, 0, false, 0⟩) :: [])) := Lib.hid ((H0.out.alloc zTk 39).sets (L' := t.vals) hBW2 hoW2)
    clear hBW2 hoW2
    have R2 := Lib.hid (Blk.box (H2.out.at 0 rfl)).range
    have HT : Hid (∀ W, Calls Tryd.prog 23 #[.agg t.vals.toArray] W fun e w' => e = .returned (.bool false) ∧ Below W.heap.size W w') := Lib.hid fun W => by
      have := tkRight_any t W
      rwa [Hok.out, show decide (q4 ≠ 4095) = false by simp [Hh.out]] at this
    go_upto_region 5 with (first
      | (with_reducible refine wpList_load_rng (ty := 39) t.vals (by with_unfolding_all rfl) R2.out Tryd.underlying39 (by with_unfolding_all rfl) (by with_unfolding_all exact info39) ?_)
      | ((with_reducible refine (HT.out _).mono ?_)
         rintro e w3 ⟨rfl, hb3⟩
         have H3 := Lib.hid (H2.out.ext hb3)
         clear hb3))
    have B3 := Lib.hid (H3.out.at 1 rfl)
    go_wp2_with (first
      | (with_reducible refine wpList_buildA (t := 39) [] (Tk.vals ⟨false, 0, false, 0⟩) (by with_unfolding_all rfl) tk_built0 ?_)
      | (with_reducible refine wpList_store_blk (ty := 39) (o := 0) _ (Tk.vals ⟨false, 0, false, 0⟩) (by with_unfolding_all rfl) (by with_unfolding_all rfl) B3.out (by with_unfolding_all exact Nat.le_refl _) (by with_unfolding_all exact info39) (Tk.one _) (fun W4 hBW4 hoW4 => ?_)))
    have h4 := (H3.out.pull 1 rfl).sets (L' := Tk.vals ⟨false, 0, false, 0⟩) hBW4 hoW4
    refine ret_cell2 (cs := Tk.vals ⟨false, 0, false, 0⟩) Tryd.results25 (by rfl) (by rfl) (Blk.box h4.head).range Tryd.underlying39 rfl info39 rfl ⟨rfl, h4.below⟩
  · rw [if_neg h]
    have Hh := Lib.hid h
    clear h
    go_enter Tryd.func25, Tryd.ntmps25
    go_upto_region 1 with (fail)
    generalize World.alloc _ _ = w1 at *
    have H0 : Hid (St w.heap.size w w1 (bk w.heap.size 39 (Tk.vals ⟨false, 0, false, 0⟩) :: [])) := H0
    go_upto_region 4 with (first
      | (with_reducible refine wpList_buildA (t := 39) [(0, .bool s), (1, .int .i64 (q1 : Int)), (2, .bool d), (3, .int .i64 (q4 : Int))] t.vals (by with_unfolding_all rfl) Htb.out ?_)
      | (with_reducible refine wpList_store_blk (ty := 39) (o := 0) _ t.vals (by with_unfolding_all rfl) (by with_unfolding_all rfl) (Blk.new w1 zTk 39) (by with_unfolding_all exact Nat.le_refl _) (by with_unfolding_all exact info39) (Tk.one _) (fun W2 hBW2 hoW2 => ?_)))
    have H2 : Hid (St w.heap.size w W2 (bk w1.heap.size 39 t.vals :: bk w.heap.size 39 (Tk.vals ⟨false, 0, false, 0⟩) :: [])) := Lib.hid ((H0.out.alloc zTk 39).sets (L' := t.vals) hBW2 hoW2)
    clear hBW2 hoW2
    have R2 := Lib.hid (Blk.box (H2.out.at 0 rfl)).range
    have HT : Hid (∀ W, Calls Tryd.prog 23 #[.agg t.vals.toArray] W fun e w' => e = .returned (.bool true) ∧ Below W.heap.size W w') := Lib.hid fun W => by
      have := tkRight_any t W
      rwa [Hok.out, show decide (q4 ≠ 4095) = true by simp [Hh.out]] at this
    go_upto_region 6 with (first
      | (with_reducible refine wpList_load_rng (ty := 39) t.vals (by with_unfolding_all rfl) R2.out Tryd.underlying39 (by with_unfolding_all rfl) (by with_unfolding_all exact info39) ?_)
      | ((with_reducible refine (HT.out _).mono ?_)
         rintro e w3 ⟨rfl, hb3⟩
         have H3 := Lib.hid (H2.out.ext hb3)
         clear hb3))
    have B3 := Lib.hid (H3.out.at 1 rfl)
    have R3 := Lib.hid (Blk.box (H3.out.at 0 rfl)).range
    go_wp2_with (first
      | (with_reducible refine wpList_load_rng (ty := 39) t.vals (by with_unfolding_all rfl) R3.out Tryd.underlying39 (by with_unfolding_all rfl) (by with_unfolding_all exact info39) ?_)
      | (with_reducible refine wpList_store_blk (ty := 39) (o := 0) _ t.vals (by with_unfolding_all rfl) (by with_unfolding_all rfl) B3.out (by with_unfolding_all exact Nat.le_refl _) (by with_unfolding_all exact info39) (Tk.one _) (fun W4 hBW4 hoW4 => ?_)))
    have h4 := (H3.out.pull 1 rfl).sets (L' := t.vals) hBW4 hoW4
    refine ret_cell2 (cs := t.vals) Tryd.results25 (by rfl) (by rfl) (Blk.box h4.head).range Tryd.underlying39 rfl info39 rfl ⟨rfl, h4.below⟩
end Go.Proofs.YtkicbabfgahmkaaDoor

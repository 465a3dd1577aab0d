/- Tags and frames: tag.Right, Stack, Pack; frame.Head and what Right asks. (Printed by tools/mkfr1.py.) -/
import Derived.Test.YteibhcocldihbaaDoorFrM
import Derived.Test.YteibhcocldihbaaDoorOwn
import Derived.Test.YteibhcocldihbaaDoorBp1
import Derived.Test.YteibhcocldihbaaDoorHeldG
set_option linter.all false
namespace Go.Proofs.YteibhcocldihbaaDoor
open Go.RowKit
def Tk.vals (t : Tk) : List Value := [.bool t.s, .int .i64 t.pcp, .bool t.dei, .int .i64 t.vid]
@[reducible] def zTk : List Value := [.bool false, .int .i64 0, .bool false, .int .i64 0]
theorem Tk.one (t : Tk) : ∀ v ∈ t.vals, v.oneCell' = true := fun v hv => by
  simp only [Tk.vals, List.mem_cons, List.not_mem_nil, or_false] at hv
  rcases hv with rfl | rfl | rfl | rfl <;> rfl
theorem Tk.len (t : Tk) : t.vals.length = 4 := rfl
theorem info124 : (Tryd.prog.info? 124).map (·.size) = some 4 := by kernel_rfl
theorem info57 : (Tryd.prog.info? 57).map (·.size) = some 21 := by kernel_rfl
def Fu.vals (f : Fu) (tv : Value) : List Value := f.dst.vals ++ (f.src.vals ++ [tv, .int .i64 f.kind, .int .i64 f.typ, .int .i64 f.dsap, .int .i64 f.ssap, .int .i64 f.ctl, .int .i64 f.oui, .int .i64 f.pid, .string ⟨f.body.toArray⟩])
theorem Fu.len (f : Fu) (tv : Value) : (f.vals tv).length = 21 := rfl
theorem Fu.one (f : Fu) (tv : Value) (h : tv.oneCell' = true) : ∀ v ∈ f.vals tv, v.oneCell' = true := fun v hv => by
  simp only [Fu.vals, List.mem_append, List.mem_cons, List.not_mem_nil, or_false] at hv
  rcases hv with hv | hv | rfl | rfl | rfl | rfl | rfl | rfl | rfl | rfl | rfl
  · exact Ad.one _ v hv
  · exact Ad.one _ v hv
  all_goals first | exact h | rfl
set_option maxRecDepth 100000 in
set_option maxHeartbeats 1000000 in
theorem tkRight_any (t : Tk) (w : World) :
    Calls Tryd.prog 124 #[.agg t.vals.toArray] w fun e w' => e = .returned (.bool t.okB) ∧ Below w.heap.size w w' := by
  obtain ⟨s, p, d, v⟩ := t
  simp only [Tk.vals]
  by_cases h0 : 0 ≤ p
  rotate_left
  · go_enter Tryd.func124, Tryd.ntmps124
    go_wp2_with fail
    go_ret
    exact ⟨by unfold Tk.okB; simp [*] <;> intros <;> omega, by go_grown⟩
  by_cases h1 : p ≤ 7
  rotate_left
  · go_enter Tryd.func124, Tryd.ntmps124
    go_wp2_with fail
    go_ret
    exact ⟨by unfold Tk.okB; simp [*] <;> intros <;> omega, by go_grown⟩
  by_cases h2 : 0 ≤ v
  rotate_left
  · go_enter Tryd.func124, Tryd.ntmps124
    go_wp2_with fail
    go_ret
    exact ⟨by unfold Tk.okB; simp [*] <;> intros <;> omega, by go_grown⟩
  by_cases h3 : v ≤ 4094
  rotate_left
  · go_enter Tryd.func124, Tryd.ntmps124
    go_wp2_with fail
    go_ret
    exact ⟨by unfold Tk.okB; simp [*] <;> intros <;> omega, by go_grown⟩
  go_enter Tryd.func124, Tryd.ntmps124
  go_wp2_with fail
  go_ret
  exact ⟨by unfold Tk.okB; simp [*] <;> intros <;> omega, by go_grown⟩
theorem stack_bad {l : List Tk} {k : Nat} (hk : k < l.length) (h : (l[k]).okB = false ∨ (l.length = 2 ∧ (l[k]).s ≠ decide (k = 0))) : stackB l = false := by
  match l, k, hk, h with
  | [a], 0, _, h =>
    rcases h with h | ⟨h, _⟩
    · exact h
    · simp at h
  | [a, b], 0, _, h =>
    rcases h with h | ⟨_, h⟩
    · have h : a.okB = false := h
      simp [stackB, h]
    · have h : a.s ≠ true := h
      have : a.s = false := by simpa using h
      simp [stackB, this]
  | [a, b], 1, _, h =>
    rcases h with h | ⟨_, h⟩
    · have h : b.okB = false := h
      simp [stackB, h]
    · have h : b.s ≠ false := h
      have : b.s = true := by simpa using h
      simp [stackB, this]
  | _ :: _ :: _ :: _, _, _, _ => rfl
theorem stack_all {l : List Tk} (h : ∀ k (hk : k < l.length), (l[k]).okB = true ∧ (l.length = 2 → (l[k]).s = decide (k = 0))) : stackB l = decide (l.length ≤ 2) := by
  match l, h with
  | [], _ => rfl
  | [a], h =>
    have := (h 0 (by simp)).1
    simpa [stackB] using this
  | [a, b], h =>
    have h0 := h 0 (by simp)
    have h1 := h 1 (by simp)
    have e1 : a.okB = true := h0.1
    have e2 : b.okB = true := h1.1
    have e3 : a.s = true := h0.2 rfl
    have e4 : b.s = false := h1.2 rfl
    simp [stackB, e1, e2, e3, e4]
  | _ :: _ :: _ :: _, _ => simp [stackB]
set_option maxRecDepth 100000 in
set_option maxHeartbeats 2000000 in
theorem tkStack_any (l : List Tk) (A : Option Addr) (cap : Nat) (w : World) (hn : l.length ≤ 100000) (hr : SlRow w w.heap.size 4 A (l.map Tk.vals)) :
    Calls Tryd.prog 73 #[.slice A l.length cap] w fun e w' => e = .returned (.bool (stackB l)) ∧ Below w.heap.size w w' := by
  obtain ⟨n, hlen⟩ : ∃ n, l.length = n := ⟨_, rfl⟩
  rw [hlen] at hn ⊢
  have Hr := Lib.hid hr
  have Hlen := Lib.hid hlen
  clear hr hlen
  obtain ⟨sb, hsb⟩ : ∃ b, stackB l = b := ⟨_, rfl⟩
  have Hsb := Lib.hid hsb
  rw [hsb]
  clear hsb
  go_enter Tryd.func73, Tryd.ntmps73
  go_wp2_with fail
  go_loopw [3, 4, 7] (fun _ _ i wr => ∃ k : Nat, k ≤ n ∧ i = .int .i64 k ∧ Hid (∀ j (hj : j < l.length), j < k → (l[j]).okB = true ∧ (l.length = 2 → (l[j]).s = decide (j = 0))) ∧ Hid (Below w.heap.size w wr)) (fun _ _ i _ => n - (intOf i).toNat)
  case atStart => exact ⟨0, by omega, rfl, Lib.hid (fun j _ h => by omega), Lib.hid (Below.refl _ _)⟩
  case round =>
    obtain ⟨k, hk, rfl, Hok, Hb⟩ := hrel
    by_cases hlt : k < n
    · have hkx : k < l.length := by rw [Hlen.out]; exact hlt
      obtain ⟨g, o, rfl, hg, hc⟩ := Hr.out (by rw [List.length_map]; omega)
      have hc1 := hc k (by rw [List.length_map]; exact hkx)
      have e1 : (l.map Tk.vals)[k]'(by rw [List.length_map]; exact hkx) = l[k].vals := by simp
      rw [e1] at hc1
      have Hc1 := Lib.hid (rangeAt_below hc1 Hb.out hg)
      have hbad : (l[k].okB = false ∨ (n = 2 ∧ l[k].s ≠ decide (k = 0))) → sb = false := fun h => by
        rw [← Hsb.out]; exact stack_bad hkx (by rw [Hlen.out]; exact h)
      have hnext : l[k].okB = true → (n = 2 → l[k].s = decide (k = 0)) → ∀ j (hj : j < l.length), j < k + 1 → (l[j]).okB = true ∧ (l.length = 2 → (l[j]).s = decide (j = 0)) := fun h h2 j hj hjk => by
        by_cases e : j = k
        · subst e; exact ⟨h, fun q => h2 (by rw [← Hlen.out]; exact q)⟩
        · exact Hok.out j hj (by omega)
      have Hbad := Lib.hid hbad
      have Hnext := Lib.hid hnext
      clear hc hc1 e1 hbad hnext Hok
      generalize l[k] = t at *
      go_upto_region 4 with (first
        | ((with_reducible refine wpList_load_rng (ty := 124) (b := ?b1) (o := ?o1) (ds := ?ds1) t.vals ?hx1 ?hB1 ?hu1 ?hd1 ?hi1 ?hk1)
           case hx1 => rfl
           case hB1 => exact Hc1.out
           case hu1 => exact Tryd.underlying124
           case hd1 => rfl
           case hi1 => exact info124)
        | ((with_reducible refine wpList_store_blk (ty := 124) (b := ?b2) (o := ?o2) (t := 124) zTk t.vals ?hx2 ?hy2 ?hB2 ?ho2 ?hi2 ?h12 ?hk2)
           case hx2 => rfl
           case hy2 => rfl
           case hB2 => exact Blk.new wr zTk 124
           case ho2 => exact Nat.le_refl _
           case hi2 => exact info124
           case h12 => exact (Tk.one _)
           intro W4 hBW4 hoW4))
      obtain ⟨hb8, lPE⟩ := Only.fresh hoW4
      have HB4 := Lib.hid (Hb.out.trans (hb8.mono Hb.out.size))
      have BX := Lib.hid (Blk.box hBW4)
      have hS : Hid (∀ W, Below W4.heap.size W4 W → W.cell? ⟨wr.heap.size, 0, none⟩ = some (.bool t.s)) := Lib.hid (fun W hW => laterc ((Blk.box hBW4).cell 0) hW hBW4.lt)
      clear hBW4 hoW4 hb8 Hb Hc1
      generalize wr.heap.size = Q at *
      cases hto : t.okB
      · have HT : Hid (∀ W, Calls Tryd.prog 124 #[.agg t.vals.toArray] W fun e w' => e = .returned (.bool false) ∧ Below W.heap.size W w') := Lib.hid fun W => by rw [← hto]; exact tkRight_any t W
        have hsf := Hbad.out (.inl hto)
        clear hto
        go_wp2_with (first
          | (with_reducible refine wpList_load_rng (ty := 124) t.vals (by with_unfolding_all rfl) BX.out.range Tryd.underlying124 (by with_unfolding_all rfl) (by with_unfolding_all exact info124) ?_)
          | ((with_reducible refine (HT.out _).mono ?_)
             rintro e w5 ⟨rfl, hb5⟩
             have HB5 := Lib.hid (HB4.out.trans (hb5.mono HB4.out.size))
             clear hb5))
        go_ret
        exact ⟨by rw [hsf]; rfl, HB5.out⟩
      · have HT : Hid (∀ W, Calls Tryd.prog 124 #[.agg t.vals.toArray] W fun e w' => e = .returned (.bool true) ∧ Below W.heap.size W w') := Lib.hid fun W => by rw [← hto]; exact tkRight_any t W
        have Hto := Lib.hid hto
        clear hto
        by_cases hn2 : n = 2
        · have hn2' : ((n : Int) == 2) = true := by rw [hn2]; rfl
          have Hn2 := Lib.hid hn2
          clear hn2
          obtain ⟨zb, hzb⟩ : ∃ z, decide (k = 0) = z := ⟨_, rfl⟩
          have hz2 : ((k : Int) == 0) = zb := by
            rw [← hzb]
            by_cases h : k = 0
            · simp [h]
            · rw [decide_eq_false h, beq_eq_false_iff_ne]; omega
          have Hzb := Lib.hid hzb
          clear hzb
          obtain ⟨ts, hts⟩ : ∃ z, t.s = z := ⟨_, rfl⟩
          rw [hts] at hS Hbad Hnext
          clear hts
          by_cases he : ts = zb
          · subst he
            cases ts
            all_goals
              go_wp2_with (first
                | (with_reducible refine wpList_load_rng (ty := 124) t.vals (by with_unfolding_all rfl) BX.out.range Tryd.underlying124 (by with_unfolding_all rfl) (by with_unfolding_all exact info124) ?_)
                | ((with_reducible refine (HT.out _).mono ?_)
                   rintro e w5 ⟨rfl, hb5⟩
                   have HB5 := Lib.hid (HB4.out.trans (hb5.mono HB4.out.size))
                   have c5 := hS.out _ hb5
                   clear hb5))
              go_roundw
              case rel => exact ⟨k + 1, by omega, by go_num, Lib.hid (Hnext.out Hto.out (fun _ => by rw [Hzb.out])), HB5⟩
              case measure => simp [intOf]; omega
          · have hsf := Hbad.out (.inr ⟨Hn2.out, by rw [Hzb.out]; exact he⟩)
            cases ts <;> cases zb <;> first | exact absurd rfl he | skip
            all_goals
              clear he
              go_wp2_with (first
                | (with_reducible refine wpList_load_rng (ty := 124) t.vals (by with_unfolding_all rfl) BX.out.range Tryd.underlying124 (by with_unfolding_all rfl) (by with_unfolding_all exact info124) ?_)
                | ((with_reducible refine (HT.out _).mono ?_)
                   rintro e w5 ⟨rfl, hb5⟩
                   have HB5 := Lib.hid (HB4.out.trans (hb5.mono HB4.out.size))
                   have c5 := hS.out _ hb5
                   clear hb5))
              go_ret
              exact ⟨by rw [hsf]; rfl, HB5.out⟩
        · have hn2' : ((n : Int) == 2) = false := by rw [beq_eq_false_iff_ne]; omega
          go_wp2_with (first
            | (with_reducible refine wpList_load_rng (ty := 124) t.vals (by with_unfolding_all rfl) BX.out.range Tryd.underlying124 (by with_unfolding_all rfl) (by with_unfolding_all exact info124) ?_)
            | ((with_reducible refine (HT.out _).mono ?_)
               rintro e w5 ⟨rfl, hb5⟩
               have HB5 := Lib.hid (HB4.out.trans (hb5.mono HB4.out.size))
               have c5 := hS.out _ hb5
               clear hb5))
          go_roundw
          case rel => exact ⟨k + 1, by omega, by go_num, Lib.hid (Hnext.out Hto.out (fun h => absurd h hn2)), HB5⟩
          case measure => simp [intOf]; omega
    · obtain rfl : k = n := by omega
      have hall := stack_all (l := l) (fun j hj => Hok.out j hj (by rw [Hlen.out] at hj; exact hj))
      rw [Hsb.out, Hlen.out] at hall
      subst hall
      clear Hsb
      by_cases h2 : k ≤ 2
      · have h2' : (k : Int) ≤ 2 := by omega
        go_wp2_with fail
        go_ret
        exact ⟨by simp [h2], Hb.out⟩
      · have h2' : ¬ (k : Int) ≤ 2 := by omega
        go_wp2_with fail
        go_ret
        exact ⟨by simp [h2], Hb.out⟩
def headN (k : Int) (n : Nat) : Nat := 14 + 4 * n + (if k = 2 then 3 else if k = 3 then 8 else 0)
theorem Fu.head_n (f : Fu) : f.head = headN f.kind f.tags.length := rfl
set_option maxRecDepth 100000 in
set_option maxHeartbeats 1000000 in
theorem head_any (f : Fu) (A : Option Addr) (cap : Nat) (w : World) (hn : f.tags.length ≤ 100000) :
    Calls Tryd.prog 30 #[.agg (f.vals (.slice A f.tags.length cap)).toArray] w fun e w' => e = .returned (.int .i64 (f.head : Int)) ∧ Below w.heap.size w w' := by
  have hBx := Blk.new w (f.vals (.slice A f.tags.length cap)) 57
  have c2 : (w.alloc (.cells (f.vals (.slice A f.tags.length cap)).toArray 57)).cell? ⟨w.heap.size, 12, none⟩ = some (.slice A f.tags.length cap) := hBx.box.cell 12
  have c3 : (w.alloc (.cells (f.vals (.slice A f.tags.length cap)).toArray 57)).cell? ⟨w.heap.size, 13, none⟩ = some (.int .i64 f.kind) := hBx.box.cell 13
  have Hb0 : Hid (Below w.heap.size w (w.alloc (.cells (f.vals (.slice A f.tags.length cap)).toArray 57))) := Lib.hid ((Below.refl _ _).alloc (Nat.le_refl _) _)
  rw [f.head_n]
  clear hBx
  generalize f.tags.length = n at *
  generalize (f.vals (.slice A n cap)) = fv at *
  generalize f.kind = kd at *
  by_cases h2 : kd = 2
  · subst h2
    have hh : ((headN 2 n : Nat) : Int) = 14 + 4 * (n : Int) + 3 := by unfold headN; rw [if_pos rfl]; omega
    rw [hh]
    go_enter Tryd.func30, Tryd.ntmps30
    go_upto_region 1 with (fail)
    generalize World.alloc _ _ = W1 at *
    go_wp2_with fail
    go_ret
    exact ⟨by first | rfl | (congr 2; omega), Hb0.out⟩
  · by_cases h3 : kd = 3
    · subst h3
      have hh : ((headN 3 n : Nat) : Int) = 14 + 4 * (n : Int) + 8 := by unfold headN; rw [if_neg (by decide), if_pos rfl]; omega
      rw [hh]
      go_enter Tryd.func30, Tryd.ntmps30
      go_upto_region 1 with (fail)
      generalize World.alloc _ _ = W1 at *
      go_wp2_with fail
      go_ret
      exact ⟨by first | rfl | (congr 2; omega), Hb0.out⟩
    · have hh : ((headN kd n : Nat) : Int) = 14 + 4 * (n : Int) := by unfold headN; rw [if_neg h2, if_neg h3]; omega
      rw [hh]
      have b2 : (kd == 2) = false := by simp [h2]
      have b3 : (kd == 3) = false := by simp [h3]
      go_enter Tryd.func30, Tryd.ntmps30
      go_upto_region 1 with (fail)
      generalize World.alloc _ _ = W1 at *
      go_wp2_with fail
      go_ret
      exact ⟨by first | rfl | (congr 2; omega), Hb0.out⟩
set_option maxRecDepth 100000 in
theorem three_any (PB : Nat) (ds ss ct a b c : Int) (w : World) (h5 : w.cell? ⟨PB, 15, none⟩ = some (.int .i64 ds)) (h6 : w.cell? ⟨PB, 16, none⟩ = some (.int .i64 ss)) (h7 : w.cell? ⟨PB, 17, none⟩ = some (.int .i64 ct)) :
    Calls Tryd.prog 74 #[.int .i64 a, .int .i64 b, .int .i64 c, .pointer (some ⟨PB, 0, none⟩)] w fun e w' => e = .returned (.bool (decide (ds = a) && (decide (ss = b) && decide (ct = c)))) ∧ w' = w := by
  by_cases e1 : ds = a
  rotate_left
  · have b1 : (ds == a) = false := by simp [e1]
    go_enter Tryd.func74, Tryd.ntmps74
    go_wp2_with fail
    go_ret
    exact ⟨by simp [e1], rfl⟩
  by_cases e2 : ss = b
  rotate_left
  · have b1 : (ds == a) = true := by simp [e1]
    have b2 : (ss == b) = false := by simp [e2]
    go_enter Tryd.func74, Tryd.ntmps74
    go_wp2_with fail
    go_ret
    exact ⟨by simp [e1, e2], rfl⟩
  by_cases e3 : ct = c
  rotate_left
  · have b1 : (ds == a) = true := by simp [e1]
    have b2 : (ss == b) = true := by simp [e2]
    have b3 : (ct == c) = false := by simp [e3]
    go_enter Tryd.func74, Tryd.ntmps74
    go_wp2_with fail
    go_ret
    exact ⟨by simp [e1, e2, e3], rfl⟩
  have b1 : (ds == a) = true := by simp [e1]
  have b2 : (ss == b) = true := by simp [e2]
  have b3 : (ct == c) = true := by simp [e3]
  go_enter Tryd.func74, Tryd.ntmps74
  go_wp2_with fail
  go_ret
  exact ⟨by simp [e1, e2, e3], rfl⟩
set_option maxRecDepth 100000 in
theorem within_any (x : Int) (w : World) :
    Calls Tryd.prog 75 #[.int .i64 x] w fun e w' => e = .returned (.bool (decide (0 ≤ x) && decide (x ≤ 255))) ∧ w' = w := by
  by_cases h1 : 0 ≤ x
  · by_cases h2 : x ≤ 255
    · go_enter Tryd.func75, Tryd.ntmps75
      go_wp2_with fail
      go_ret
      exact ⟨by simp [h1, h2], rfl⟩
    · go_enter Tryd.func75, Tryd.ntmps75
      go_wp2_with fail
      go_ret
      exact ⟨by simp [h2], rfl⟩
  · go_enter Tryd.func75, Tryd.ntmps75
    go_wp2_with fail
    go_ret
    exact ⟨by simp [h1] <;> intros <;> omega, rfl⟩
/-! Pack. -/
set_option maxRecDepth 100000 in
set_option maxHeartbeats 1000000 in
theorem tkPack_ok (t : Tk) (ht : t.okB = true) (w : World) :
    Calls Tryd.prog 72 #[.agg t.vals.toArray] w fun e w' => e = .returned (.tuple #[.int .i64 (t.num : Int), .nilIface]) ∧ Below w.heap.size w w' := by
  have HT : Hid (∀ W, Calls Tryd.prog 124 #[.agg t.vals.toArray] W fun e w' => e = .returned (.bool true) ∧ Below W.heap.size W w') := Lib.hid fun W => by rw [← ht]; exact tkRight_any t W
  have H0 := Lib.hid ((St.init w).alloc t.vals 124)
  obtain ⟨p0, p1, v0, v1⟩ := Tk.ok_iff.1 ht
  have hnum : t.num = t.pcp.toNat * 8192 + bitN t.dei * 4096 + t.vid.toNat := rfl
  obtain ⟨s, p, d, v⟩ := t
  simp only [] at p0 p1 v0 v1 hnum
  obtain ⟨p, rfl⟩ := Int.eq_ofNat_of_zero_le p0
  obtain ⟨v, rfl⟩ := Int.eq_ofNat_of_zero_le v0
  simp only [Int.toNat_natCast] at hnum
  have hor : bits .or .i64 ((p : Int) * 8192) (v : Int) = ((2 ^ 13 * p + v : Nat) : Int) := by
    rw [show (p : Int) * 8192 = ((2 ^ 13 * p : Nat) : Int) by omega]
    exact or_sum p 13 v (by omega) (by omega)
  rw [hnum]
  clear ht hnum
  cases d
  · have hn : p * 8192 + bitN false * 4096 + v = 2 ^ 13 * p + v := by unfold bitN; simp; omega
    rw [hn]
    clear hn
    generalize (2 ^ 13 * p + v : Nat) = q at *
    go_enter Tryd.func72, Tryd.ntmps72
    go_upto_region 1 with (fail)
    generalize World.alloc _ _ = w1 at *
    go_upto_region 3 with (first
      | (with_reducible refine wpList_load_rng (ty := 124) (Tk.vals ⟨s, p, false, v⟩) (by with_unfolding_all rfl) (Blk.box (H0.out.at 0 rfl)).range Tryd.underlying124 (by with_unfolding_all rfl) (by with_unfolding_all exact info124) ?_)
      | ((with_reducible refine (HT.out _).mono ?_)
         rintro e w2 ⟨rfl, hb2⟩
         have H2 := Lib.hid (H0.out.ext hb2)
         have c1 : w2.cell? ⟨w.heap.size, 1, none⟩ = some (.int .i64 (p : Int)) := (Blk.box (H2.out.at 0 rfl)).cell 1
         have c2 : w2.cell? ⟨w.heap.size, 2, none⟩ = some (.bool false) := (Blk.box (H2.out.at 0 rfl)).cell 2
         have c3 : w2.cell? ⟨w.heap.size, 3, none⟩ = some (.int .i64 (v : Int)) := (Blk.box (H2.out.at 0 rfl)).cell 3
         clear hb2))
    go_wp2_with fail
    go_ret2
    exact ⟨rfl, H2.out.below⟩
  · have hor2 : bits .or .i64 ((2 ^ 13 * p + v : Nat) : Int) 4096 = ((p * 8192 + bitN true * 4096 + v : Nat) : Int) := by
      have e1 : (2 ^ 13 * p + v) ||| 4096 = p * 8192 + 4096 + v := by
        rw [show 2 ^ 13 * p + v = 2 ^ 13 * p ||| v from Nat.two_pow_add_eq_or_of_lt (by omega) p]
        rw [Nat.or_assoc, Nat.or_comm v 4096]
        have e2 : 4096 ||| v = 4096 + v := by
          have := Nat.two_pow_add_eq_or_of_lt (i := 12) (b := v) (by omega) 1
          simpa using this.symm
        rw [e2]
        have := Nat.two_pow_add_eq_or_of_lt (i := 13) (b := 4096 + v) (by omega) p
        rw [← this]
        omega
      rw [show (4096 : Int) = ((4096 : Nat) : Int) from rfl, or_int _ _ (by omega) (by omega), e1]
      rfl
    generalize (p * 8192 + bitN true * 4096 + v : Nat) = z at *
    generalize (2 ^ 13 * p + v : Nat) = q at *
    go_enter Tryd.func72, Tryd.ntmps72
    go_upto_region 1 with (fail)
    generalize World.alloc _ _ = w1 at *
    go_upto_region 3 with (first
      | (with_reducible refine wpList_load_rng (ty := 124) (Tk.vals ⟨s, p, true, v⟩) (by with_unfolding_all rfl) (Blk.box (H0.out.at 0 rfl)).range Tryd.underlying124 (by with_unfolding_all rfl) (by with_unfolding_all exact info124) ?_)
      | ((with_reducible refine (HT.out _).mono ?_)
         rintro e w2 ⟨rfl, hb2⟩
         have H2 := Lib.hid (H0.out.ext hb2)
         have c1 : w2.cell? ⟨w.heap.size, 1, none⟩ = some (.int .i64 (p : Int)) := (Blk.box (H2.out.at 0 rfl)).cell 1
         have c2 : w2.cell? ⟨w.heap.size, 2, none⟩ = some (.bool true) := (Blk.box (H2.out.at 0 rfl)).cell 2
         have c3 : w2.cell? ⟨w.heap.size, 3, none⟩ = some (.int .i64 (v : Int)) := (Blk.box (H2.out.at 0 rfl)).cell 3
         clear hb2))
    go_wp2_with fail
    go_ret2
    exact ⟨rfl, H2.out.below⟩
structure FuIn (w : World) (g : Nat) (f : Fu) (tv : Value) : Prop where
  whole : w.rangeAt g 0 (f.vals tv)
  dst : w.rangeAt g 0 f.dst.vals
  src : w.rangeAt g 6 f.src.vals
  tags : w.cell? ⟨g, 12, none⟩ = some tv
  kind : w.cell? ⟨g, 13, none⟩ = some (.int .i64 f.kind)
  typ : w.cell? ⟨g, 14, none⟩ = some (.int .i64 f.typ)
  dsap : w.cell? ⟨g, 15, none⟩ = some (.int .i64 f.dsap)
  ssap : w.cell? ⟨g, 16, none⟩ = some (.int .i64 f.ssap)
  ctl : w.cell? ⟨g, 17, none⟩ = some (.int .i64 f.ctl)
  oui : w.cell? ⟨g, 18, none⟩ = some (.int .i64 f.oui)
  pid : w.cell? ⟨g, 19, none⟩ = some (.int .i64 f.pid)
  body : w.cell? ⟨g, 20, none⟩ = some (.string ⟨f.body.toArray⟩)
theorem fu_in {w : World} {g : Nat} {f : Fu} {tv : Value} (h : Box w g (f.vals tv)) : FuIn w g f tv := by
  have h0 := h.range
  have h1 : w.rangeAt g 6 (f.src.vals ++ [tv, .int .i64 f.kind, .int .i64 f.typ, .int .i64 f.dsap, .int .i64 f.ssap, .int .i64 f.ctl, .int .i64 f.oui, .int .i64 f.pid, .string ⟨f.body.toArray⟩]) := by
    have := rng_right (a := f.dst.vals) h0
    exact this
  exact ⟨h0, rng_left h0, rng_left h1, h.cell 12, h.cell 13, h.cell 14, h.cell 15, h.cell 16, h.cell 17, h.cell 18, h.cell 19, h.cell 20⟩
end Go.Proofs.YteibhcocldihbaaDoor

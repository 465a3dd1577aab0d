/- LearnNow, LearnBound, LearnForgets. -/
import Derived.Test.YtoenlcmngdpkmaaLn8
namespace Go.Proofs.Ytoenlcmngdpkmaa
open Go.RowKit
theorem pick_hid (x : Int) (n : Nat) (hn : 1 ≤ n) (hn2 : n ≤ 1000000) : Hid (∀ W, Calls Try.prog 16 #[.int .i64 x, .int .i64 (n : Int)] W fun e w' => e = .returned (.int .i64 (pickN x n : Nat)) ∧ W = w') := Lib.hid fun W => pick_any x n W hn (by omega)
theorem addr_hid (x : Int) : Hid (∀ W, Calls Try.prog 18 #[.int .i64 x] W fun e w' => e = .returned (.agg (adOf (pickN x 60)).vals.toArray) ∧ Below W.heap.size W w') := Lib.hid fun W => address_any x W
set_option maxRecDepth 100000 in
set_option maxHeartbeats 4000000 in
theorem law_LearnNow (v : Value) (l : List Less) (vid a port other : Int) (_ : (Lit.int .i64 vid).wf = true) (_ : (Lit.int .i64 a).wf = true) (_ : (Lit.int .i64 port).wf = true) (_ : (Lit.int .i64 other).wf = true) (w : World) (h : IsLessons w v l) :
    Calls Try.prog 3 #[v, .int .i64 vid, .int .i64 a, .int .i64 port, .int .i64 other] w fun e w' => e = .returned (.bool true) ∧ Below w.heap.size w w' := by
  obtain ⟨A, n, cap, rfl, hl, hn, hr⟩ := h
  have Hr := Lib.hid hr
  have Hl := Lib.hid hl
  clear hr hl
  by_cases h100 : 100 < n
  · go_enter Try.func3, Try.ntmps3
    go_wp2_with (first
      | ((with_reducible refine (learned_any _).mono ?_)
         rintro e w1 ⟨rfl, hb1⟩
         skip)
      )
    go_ret
    exact ⟨rfl, hb1⟩
  · have hv3 : Hid (∀ W, Calls Try.prog 16 #[.int .i64 vid, .int .i64 3] W fun e w' => e = .returned (.int .i64 (pickN vid 3 : Nat)) ∧ W = w') := pick_hid vid 3 (by omega) (by omega)
    have hp8 : Hid (∀ W, Calls Try.prog 16 #[.int .i64 port, .int .i64 8] W fun e w' => e = .returned (.int .i64 (pickN port 8 : Nat)) ∧ W = w') := pick_hid port 8 (by omega) (by omega)
    have ha := addr_hid a
    have ho := addr_hid other
    have p1 := pickN_lt vid 3 (by omega)
    have p2 := pickN_lt port 8 (by omega)
    have hga : (adOf (pickN a 60)).a.toNat % 2 ≠ 1 := by rw [adOf_a]; decide
    have Hga := Lib.hid hga
    obtain ⟨hok, hn0, hn1, _⟩ := taught_ok l [] 0 (by omega) (TabOk.nil 0)
    rw [Hl.out] at hn1
    have hS := fun W (hb : Below w.heap.size w W) => school_st l A n cap Hl.out (by omega) (St.init W) (fun h0 => by
      obtain ⟨g, o, e, hg, hk⟩ := Hr.out h0
      exact ⟨g, o, e, Nat.lt_of_lt_of_le hg hb.size, fun k hk' => rangeAt_below (hk k hk') hb hg⟩)
    unfold School at hS
    generalize (taughtM [] 0 l).1 = es at *
    generalize (taughtM [] 0 l).2 = now at *
    have hn2 : now ≤ 2900 := by omega
    generalize pickN vid 3 = pv at *
    generalize pickN port 8 = pp at *
    have E2 : ∀ (W : World), (binOp .eql 30 (.agg (adOf (pickN other 60)).vals.toArray) (.agg (adOf (pickN a 60)).vals.toArray)).run Try.prog W = .ok (.bool (decide (adOf (pickN other 60) = adOf (pickN a 60)))) W := fun W => ad_eq _ _ W
    have G2 : ∀ (x y : Operand) (W : World), (eqGuard .eql 30 x y (.agg (adOf (pickN other 60)).vals.toArray) (.agg (adOf (pickN a 60)).vals.toArray)).run Try.prog W = .ok () W := fun x y W => ad_guard .eql _ _ x y W
    generalize adOf (pickN a 60) = aa at *
    generalize adOf (pickN other 60) = bb at *
    have HS := Lib.hid hS
    have Hok := Lib.hid hok
    clear hS hok hga hn1
    go_enter Try.func3, Try.ntmps3
    go_upto_region 8 with (first
      | ((with_reducible refine (learned_any _).mono ?_)
         rintro e w1 ⟨rfl, hb1⟩
         skip)
      | ((with_reducible refine (HS.out _ hb1).mono ?_)
         rintro e w2 ⟨T, sv, rfl, h2⟩
         skip)
      )
    have Hb0 := Lib.hid hb1
    have Hb1 := Lib.hid (hb1.trans (h2.below.mono hb1.size))
    have H3 := Lib.hid (show St w1.heap.size w1 w2 _ from h2)
    clear HS Hr hb1 h2
    have hlk := look_learned es (1 + (pv : Int)) aa (pp : Int) now 100 (by omega)
    have Hok2 := Lib.hid (learn_ok Hok.out (1 + (pv : Int)) aa (pp : Int) now 100 (by omega) (by omega) (by omega) (by omega))
    go_upto_region 11 with (first
      | ((with_reducible refine (hv3.out _).mono ?_)
         rintro e w9 ⟨rfl, rfl⟩
         skip)
      | ((with_reducible refine (hp8.out _).mono ?_)
         rintro e w9 ⟨rfl, rfl⟩
         skip)
      | ((with_reducible refine (ha.out _).mono ?_)
         rintro e w9 ⟨rfl, hb⟩
         have H3 := Lib.hid (H3.out.ext hb)
         clear hb)
      | ((with_reducible refine (ho.out _).mono ?_)
         rintro e w9 ⟨rfl, hb⟩
         have H3 := Lib.hid (H3.out.ext hb)
         clear hb)
      | ((with_reducible refine (look_st H3.out Hok.out (by omega) _ _ _ (by omega) (by omega)).mono ?_)
         rintro e w9 ⟨rfl, h9⟩
         have H3 := Lib.hid h9
         clear h9)
      | ((with_reducible refine (len_st H3.out Hok.out (by omega) _ (by omega) (by omega)).mono ?_)
         rintro e w9 ⟨rfl, h9⟩
         have H3 := Lib.hid h9
         clear h9)
      )
    go_upto_region 13 with (first
      | ((with_reducible refine (ha.out _).mono ?_)
         rintro e w9 ⟨rfl, hb⟩
         have H3 := Lib.hid (H3.out.ext hb)
         clear hb)
      | ((with_reducible refine (learn_st H3.out Hok.out.len _ _ _ _ (fun e he => ⟨(Hok.out.time e he).1, Int.le_trans (Hok.out.time e he).2 (by omega)⟩) Hga.out (by omega) (by omega) (by omega) (by omega) (by omega) (by omega) (by omega)).mono ?_)
         rintro e w9 ⟨rfl, sv9, h9⟩
         have H4 := Lib.hid h9
         clear h9 H3)
      | ((with_reducible refine (look_st H4.out Hok2.out (by omega) _ _ _ (by omega) (by omega)).mono ?_)
         rintro e w9 ⟨rfl, h9⟩
         have H4 := Lib.hid h9
         clear h9)
      | ((with_reducible refine (ha.out _).mono ?_)
         rintro e w9 ⟨rfl, hb⟩
         have H4 := Lib.hid (H4.out.ext hb)
         clear hb)
      )
    have hX : (0 ≤ lookM es (1 + (pv : Int)) aa now 100 ∨ lenM es now 100 < 32) → ¬ bb = aa → (lookM (learnM es (1 + (pv : Int)) aa (pp : Int) now 100) (1 + (pv : Int)) bb now 100 == lookM es (1 + (pv : Int)) bb now 100) = true := fun h1 h2 => by
      rw [beq_iff_eq]
      refine look_other (fun h => h2 h.2.symm) ?_
      rcases h1 with h1 | h1
      · exact kept_known Hok.out.len h1
      · exact kept_few h1
    have hF : ¬ 0 ≤ lookM es (1 + (pv : Int)) aa now 100 → 32 ≤ lenM es now 100 → lenM (learnM es (1 + (pv : Int)) aa (pp : Int) now 100) now 100 = 32 := fun h1 h2 =>
      full_len Hok.out.len (by omega) h1 (fun e he => (Hok.out.port e he).1) h2
    clear hlk
    generalize learnM es (1 + (pv : Int)) aa (pp : Int) now 100 = es2 at *
    generalize lookM es (1 + (pv : Int)) aa now 100 = lk at *
    generalize lookM es (1 + (pv : Int)) bb now 100 = was at *
    generalize lenM es now 100 = m at *
    have HX := Lib.hid hX
    have HF := Lib.hid hF
    clear hX hF
    have hend : ∀ X, St w1.heap.size w1 X (bk T 86 [.int .i64 100, .int .i64 now, sv9] :: rowI sv9 es2 :: []) → Below w.heap.size w X := fun X hX => by
      have := Hb1.out
      exact (show Below w.heap.size w w1 from Hb0.out).trans (hX.below.mono Hb0.out.size)
    have Hend := Lib.hid hend
    clear hend
    by_cases hc : 0 ≤ lk ∨ m < 32
    · have hor : (decide (0 ≤ lk) || decide ((m : Int) < 32)) = true := by
        rcases hc with h | h
        · simp [h]
        · have : (m : Int) < 32 := by omega
          simp [this]
      by_cases hab : bb = aa
      · have hd : decide (bb = aa) = true := decide_eq_true hab
        have Hab := Lib.hid hab
        clear hab
        rcases hc with h | h
        all_goals
          go_wp2_with (first
            | ((with_reducible refine (ho.out _).mono ?_)
               rintro e w9 ⟨rfl, hb⟩
               have H4 := Lib.hid (H4.out.ext hb)
               clear hb)
            | ((with_reducible refine (ha.out _).mono ?_)
               rintro e w9 ⟨rfl, hb⟩
               have H4 := Lib.hid (H4.out.ext hb)
               clear hb)
            )
          all_goals first
            | (go_ret; exact ⟨rfl, Hend.out _ H4.out⟩)
            | omega
      · have hd : decide (bb = aa) = false := decide_eq_false hab
        have hq := HX.out hc hab
        clear hab
        rcases hc with h | h
        all_goals
          go_wp2_with (first
            | ((with_reducible refine (ho.out _).mono ?_)
               rintro e w9 ⟨rfl, hb⟩
               have H4 := Lib.hid (H4.out.ext hb)
               clear hb)
            | ((with_reducible refine (ha.out _).mono ?_)
               rintro e w9 ⟨rfl, hb⟩
               have H4 := Lib.hid (H4.out.ext hb)
               clear hb)
            | ((with_reducible refine (look_st H4.out Hok2.out (by omega) _ _ _ (by omega) (by omega)).mono ?_)
               rintro e w9 ⟨rfl, h9⟩
               have H4 := Lib.hid h9
               clear h9)
            )
          all_goals first
            | (go_ret; exact ⟨rfl, Hend.out _ H4.out⟩)
            | omega
    · have h1 : ¬ 0 ≤ lk := fun h => hc (.inl h)
      have h2 : 32 ≤ m := by
        rcases Nat.lt_or_ge m 32 with h | h
        · exact absurd (.inr h) hc
        · exact h
      have hf := HF.out h1 h2
      have h3 : lk < 0 := by omega
      clear hc h1
      go_wp2_with (first
        | ((with_reducible refine (len_st H4.out Hok2.out (by omega) _ (by omega) (by omega)).mono ?_)
           rintro e w9 ⟨rfl, h9⟩
           have H4 := Lib.hid h9
           clear h9)
        )
      go_ret
      exact ⟨rfl, Hend.out _ H4.out⟩
set_option maxRecDepth 100000 in
set_option maxHeartbeats 4000000 in
theorem law_LearnBound (v : Value) (l : List Less) (later : Int) (_ : (Lit.int .i64 later).wf = true) (w : World) (h : IsLessons w v l) :
    Calls Try.prog 4 #[v, .int .i64 later] w fun e w' => e = .returned (.bool true) ∧ Below w.heap.size w w' := by
  obtain ⟨A, n, cap, rfl, hl, hn, hr⟩ := h
  have Hr := Lib.hid hr
  have Hl := Lib.hid hl
  clear hr hl
  by_cases h100 : 100 < n
  · go_enter Try.func4, Try.ntmps4
    go_wp2_with (first
      | ((with_reducible refine (learned_any _).mono ?_)
         rintro e w1 ⟨rfl, hb1⟩
         skip)
      )
    go_ret
    exact ⟨rfl, hb1⟩
  · have hp : Hid (∀ W, Calls Try.prog 16 #[.int .i64 later, .int .i64 300] W fun e w' => e = .returned (.int .i64 (pickN later 300 : Nat)) ∧ W = w') := pick_hid later 300 (by omega) (by omega)
    have p1 := pickN_lt later 300 (by omega)
    obtain ⟨hok, hn0, hn1, hsome⟩ := taught_ok l [] 0 (by omega) (TabOk.nil 0)
    rw [Hl.out] at hn1
    have hS := fun W (hb : Below w.heap.size w W) => school_st l A n cap Hl.out (by omega) (St.init W) (fun h0 => by
      obtain ⟨g, o, e, hg, hk⟩ := Hr.out h0
      exact ⟨g, o, e, Nat.lt_of_lt_of_le hg hb.size, fun k hk' => rangeAt_below (hk k hk') hb hg⟩)
    unfold School at hS
    have hz0 : l = [] → (taughtM [] 0 l).1 = [] := fun h => by rw [h]; rfl
    generalize (taughtM [] 0 l).1 = es at *
    generalize (taughtM [] 0 l).2 = now at *
    have hn2 : now ≤ 2900 := by omega
    generalize pickN later 300 = pl at *
    have h1 : lenM es now 100 ≤ 32 := Nat.le_trans (len_le ..) hok.len
    have hm2 : lenM es (now + (pl : Int)) 100 ≤ lenM es now 100 := len_later (by omega)
    have h3 : 100 < (pl : Int) → lenM es (now + (pl : Int)) 100 = 0 := fun h => len_late hok h
    have h4 : n = 0 → lenM es now 100 = 0 := fun h => by
      rw [hz0 (List.length_eq_zero_iff.1 (Hl.out.trans h))]; rfl
    have h5 : n ≠ 0 → 0 < lenM es now 100 := fun h => len_some (hsome (fun e => h (by rw [← Hl.out, e]; rfl)))
    have HS := Lib.hid hS
    have Hok := Lib.hid hok
    clear hS hok hn1 hz0 hsome
    go_enter Try.func4, Try.ntmps4
    go_upto_region 8 with (first
      | ((with_reducible refine (learned_any _).mono ?_)
         rintro e w1 ⟨rfl, hb1⟩
         skip)
      | ((with_reducible refine (HS.out _ hb1).mono ?_)
         rintro e w2 ⟨T, sv, rfl, h2⟩
         skip)
      )
    have Hb0 := Lib.hid hb1
    have H3 := Lib.hid (show St w1.heap.size w1 w2 _ from h2)
    clear HS Hr hb1 h2
    go_upto_region 10 with (first
      | ((with_reducible refine (hp.out _).mono ?_)
         rintro e w9 ⟨rfl, rfl⟩
         skip)
      | ((with_reducible refine (len_st H3.out Hok.out (by omega) _ (by omega) (by omega)).mono ?_)
         rintro e w9 ⟨rfl, h9⟩
         have H3 := Lib.hid h9
         clear h9)
      )
    generalize lenM es now 100 = m1 at *
    generalize lenM es (now + (pl : Int)) 100 = m2 at *
    have hend : Below w.heap.size w w9 := (show Below w.heap.size w w1 from Hb0.out).trans (H3.out.below.mono Hb0.out.size)
    have i1 : (m1 : Int) ≤ 32 := by omega
    have i2 : (m2 : Int) ≤ (m1 : Int) := by omega
    have e1 : ((n : Int) == 0) = ((m1 : Int) == 0) := by
      rw [Bool.eq_iff_iff, beq_iff_eq, beq_iff_eq]
      by_cases h : n = 0
      · have := h4 h; omega
      · have := h5 h; omega
    generalize hq : ((m1 : Int) == 0) = q at *
    have Hend := Lib.hid hend
    by_cases c1 : (pl : Int) ≤ 100
    · clear h1 hm2 h3 h4 h5 hend
      cases q
      all_goals
        go_wp2_with fail
        go_ret
        exact ⟨rfl, Hend.out⟩
    · have c2 : 100 < (pl : Int) := by omega
      have e3 : ((m2 : Int) == 0) = true := by rw [h3 c2]; rfl
      clear h1 hm2 h3 h4 h5 hend c1
      cases q
      all_goals
        go_wp2_with fail
        go_ret
        exact ⟨rfl, Hend.out⟩
set_option maxRecDepth 100000 in
set_option maxHeartbeats 4000000 in
theorem law_LearnForgets (v : Value) (l : List Less) (port vid a : Int) (_ : (Lit.int .i64 port).wf = true) (_ : (Lit.int .i64 vid).wf = true) (_ : (Lit.int .i64 a).wf = true) (w : World) (h : IsLessons w v l) :
    Calls Try.prog 5 #[v, .int .i64 port, .int .i64 vid, .int .i64 a] w fun e w' => e = .returned (.bool true) ∧ Below w.heap.size w w' := by
  obtain ⟨A, n, cap, rfl, hl, hn, hr⟩ := h
  have Hr := Lib.hid hr
  have Hl := Lib.hid hl
  clear hr hl
  by_cases h100 : 100 < n
  · go_enter Try.func5, Try.ntmps5
    go_wp2_with (first
      | ((with_reducible refine (learned_any _).mono ?_)
         rintro e w1 ⟨rfl, hb1⟩
         skip)
      )
    go_ret
    exact ⟨rfl, hb1⟩
  · have hv3 : Hid (∀ W, Calls Try.prog 16 #[.int .i64 vid, .int .i64 3] W fun e w' => e = .returned (.int .i64 (pickN vid 3 : Nat)) ∧ W = w') := pick_hid vid 3 (by omega) (by omega)
    have hp8 : Hid (∀ W, Calls Try.prog 16 #[.int .i64 port, .int .i64 8] W fun e w' => e = .returned (.int .i64 (pickN port 8 : Nat)) ∧ W = w') := pick_hid port 8 (by omega) (by omega)
    have ha := addr_hid a
    have p1 := pickN_lt vid 3 (by omega)
    have p2 := pickN_lt port 8 (by omega)
    obtain ⟨hok, hn0, hn1, _⟩ := taught_ok l [] 0 (by omega) (TabOk.nil 0)
    rw [Hl.out] at hn1
    have hS := fun W (hb : Below w.heap.size w W) => school_st l A n cap Hl.out (by omega) (St.init W) (fun h0 => by
      obtain ⟨g, o, e, hg, hk⟩ := Hr.out h0
      exact ⟨g, o, e, Nat.lt_of_lt_of_le hg hb.size, fun k hk' => rangeAt_below (hk k hk') hb hg⟩)
    unfold School at hS
    generalize (taughtM [] 0 l).1 = es at *
    generalize (taughtM [] 0 l).2 = now at *
    have hn2 : now ≤ 2900 := by omega
    generalize pickN vid 3 = pv at *
    generalize pickN port 8 = pp at *
    generalize adOf (pickN a 60) = aa at *
    have hlf := look_forget hok (pp : Int) (1 + (pv : Int)) aa 100 (by omega)
    have Hok2 := Lib.hid (forget_ok hok (pp : Int))
    have Hlf := Lib.hid hlf
    have HS := Lib.hid hS
    have Hok := Lib.hid hok
    clear hS hok hn1 hlf
    go_enter Try.func5, Try.ntmps5
    go_upto_region 8 with (first
      | ((with_reducible refine (learned_any _).mono ?_)
         rintro e w1 ⟨rfl, hb1⟩
         skip)
      | ((with_reducible refine (HS.out _ hb1).mono ?_)
         rintro e w2 ⟨T, sv, rfl, h2⟩
         skip)
      )
    have Hb0 := Lib.hid hb1
    have H3 := Lib.hid (show St w1.heap.size w1 w2 _ from h2)
    clear HS Hr hb1 h2
    go_upto_region 10 with (first
      | ((with_reducible refine (hv3.out _).mono ?_)
         rintro e w9 ⟨rfl, rfl⟩
         skip)
      | ((with_reducible refine (hp8.out _).mono ?_)
         rintro e w9 ⟨rfl, rfl⟩
         skip)
      | ((with_reducible refine (ha.out _).mono ?_)
         rintro e w9 ⟨rfl, hb⟩
         have H3 := Lib.hid (H3.out.ext hb)
         clear hb)
      | ((with_reducible refine (look_st H3.out Hok.out (by omega) _ _ _ (by omega) (by omega)).mono ?_)
         rintro e w9 ⟨rfl, h9⟩
         have H3 := Lib.hid h9
         clear h9)
      )
    go_upto_region 12 with (first
      | ((with_reducible refine (forget_st H3.out Hok.out.len _).mono ?_)
         rintro e w9 ⟨rfl, sv9, h9⟩
         have H4 := Lib.hid h9
         clear h9 H3)
      | ((with_reducible refine (ha.out _).mono ?_)
         rintro e w9 ⟨rfl, hb⟩
         have H4 := Lib.hid (H4.out.ext hb)
         clear hb)
      | ((with_reducible refine (look_st H4.out Hok2.out (by omega) _ _ _ (by omega) (by omega)).mono ?_)
         rintro e w9 ⟨rfl, h9⟩
         have H4 := Lib.hid h9
         clear h9)
      )
    have hlf := Hlf.out
    have hend : Below w.heap.size w w9 := (show Below w.heap.size w w1 from Hb0.out).trans (H4.out.below.mono Hb0.out.size)
    generalize lookM (forgetM es (pp : Int)) (1 + (pv : Int)) aa now 100 = is_ at *
    generalize lookM es (1 + (pv : Int)) aa now 100 = was at *
    have Hend := Lib.hid hend
    clear Hlf hend
    rcases hlf with ⟨h1, h2⟩ | ⟨h1, h2⟩
    · subst h1
      have e2 : (is_ != (pp : Int)) = true := by rw [bne_iff_ne]; exact h2
      clear h2
      go_wp2_with fail
      go_ret
      exact ⟨rfl, Hend.out⟩
    · subst h1 h2
      have e1 : ((-1 : Int) == (pp : Int)) = false := by rw [beq_eq_false_iff_ne]; omega
      go_wp2_with fail
      go_ret
      exact ⟨rfl, Hend.out⟩
end Go.Proofs.Ytoenlcmngdpkmaa

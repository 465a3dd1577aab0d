/- tag.Unpack; wire's Sub in every state; frame.long. (Printed by tools/mkfr5.py.) -/
import Derived.Test.YteibhcocldihbaaDoorFr4
import Derived.Test.YteibhcocldihbaaDoorStE
import Derived.Test.YteibhcocldihbaaDoorBp3
import Derived.Test.YteibhcocldihbaaDoorItems
set_option linter.all false
namespace Go.Proofs.YteibhcocldihbaaDoor
open Go.RowKit
theorem tk_built (s d : Bool) (p v : Int) : Tryd.prog.built 124 [(0, .bool s), (1, .int .i64 p), (2, .bool d), (3, .int .i64 v)] = some (Tk.vals ⟨s, p, d, v⟩).toArray := by kernel_rfl
theorem tk_built0 : Tryd.prog.built 124 [] = some (Tk.vals ⟨false, 0, false, 0⟩).toArray := by kernel_rfl
def unpV (s : Bool) (n : Nat) : Value := if n % 4096 = 4095 then .tuple #[.agg (Tk.vals ⟨false, 0, false, 0⟩).toArray, .iface 32 (.int .i64 3)] else .tuple #[.agg (unpackM s n).vals.toArray, .nilIface]
set_option maxRecDepth 100000 in
set_option maxHeartbeats 4000000 in
theorem tkUnpack_any (s : Bool) (n : Nat) (hn : n < 65536) (w : World) :
    Calls Tryd.prog 76 #[.bool s, .int .i64 (n : Int)] w fun e w' => e = .returned (unpV s n) ∧ Below w.heap.size w w' := by
  have H0 := Lib.hid ((St.init w).alloc zTk 124)
  have h0 : ¬ (n : Int) < 0 := by omega
  have h1 : ¬ (65535 : Int) < (n : Int) := by omega
  have hs1 : (n : Int) / 8192 = ((n / 8192 : Nat) : Int) := by omega
  have hs2 : (n : Int) / 4096 = ((n / 4096 : Nat) : Int) := by omega
  have ha1 : bits .and .i64 ((n / 4096 : Nat) : Int) 1 = ((n / 4096 % 2 : Nat) : Int) := and_mod (n / 4096) 1 (by omega) (by decide)
  have ha2 : bits .and .i64 (n : Int) 4095 = ((n % 4096 : Nat) : Int) := and_mod n 12 (by omega) (by decide)
  obtain ⟨d, hd⟩ : ∃ d, decide (n / 4096 % 2 = 1) = d := ⟨_, rfl⟩
  have hd2 : (((n / 4096 % 2 : Nat) : Int) == 1) = d := by
    rw [← hd]
    by_cases h : n / 4096 % 2 = 1
    · rw [h]; rfl
    · rw [decide_eq_false h, beq_eq_false_iff_ne]; omega
  obtain ⟨t, ht⟩ : ∃ t : Tk, unpackM s n = t := ⟨_, rfl⟩
  have ht' : (⟨s, ((n / 8192 : Nat) : Int), d, ((n % 4096 : Nat) : Int)⟩ : Tk) = t := by rw [← ht, ← hd]; rfl
  have TB : Tryd.prog.built 124 [(0, .bool s), (1, .int .i64 ((n / 8192 : Nat) : Int)), (2, .bool d), (3, .int .i64 ((n % 4096 : Nat) : Int))] = some t.vals.toArray := by rw [← ht']; exact tk_built _ _ _ _
  have hV : unpV s n = if n % 4096 = 4095 then .tuple #[.agg (Tk.vals ⟨false, 0, false, 0⟩).toArray, .iface 32 (.int .i64 3)] else .tuple #[.agg t.vals.toArray, .nilIface] := by unfold unpV; rw [ht]
  have hok : t.okB = decide (n % 4096 ≠ 4095) := by
    rw [← ht]
    by_cases h : n % 4096 = 4095
    · rw [show decide (n % 4096 ≠ 4095) = false by simp [h]]
      cases hq : (unpackM s n).okB
      · rfl
      · have := (Tk.ok_iff.1 hq).2.2.2
        unfold unpackM at this
        simp only [] at this
        omega
    · rw [(unpack_ok s hn h).1]; simp [h]
  have Htb := Lib.hid TB
  have HV := Lib.hid hV
  have Hok := Lib.hid hok
  rw [hV]
  clear hd ht ht' TB hV hok
  generalize n / 8192 = q1 at *
  generalize hq2 : n / 4096 % 2 = q2 at *
  generalize hq3 : n / 4096 = q3 at *
  generalize hq4 : n % 4096 = q4 at *
  clear hq2 hq3 hq4
  by_cases h : q4 = 4095
  · rw [if_pos h]
    have Hh := Lib.hid h
    clear h
    go_enter Tryd.func76, Tryd.ntmps76
    go_upto_region 1 with (fail)
    generalize World.alloc _ _ = w1 at *
    have H0 : Hid (St w.heap.size w w1 (bk w.heap.size 124 (Tk.vals ⟨false, 0, false, 0⟩) :: [])) := H0
    go_upto_region 4 with (first
      | (with_reducible refine wpList_buildA (t := 124) [(0, .bool s), (1, .int .i64 (q1 : Int)), (2, .bool d), (3, .int .i64 (q4 : Int))] t.vals (by with_unfolding_all rfl) Htb.out ?_)
      | (with_reducible refine wpList_store_blk (ty := 124) (o := 0) _ t.vals (by with_unfolding_all rfl) (by with_unfolding_all rfl) (Blk.new w1 zTk 124) (by with_unfolding_all exact Nat.le_refl _) (by with_unfolding_all exact info124) (Tk.one _) (fun W2 hBW2 hoW2 => ?_)))
    have H2 : Hid (St w.heap.size w W2 (bk w1.heap.size 124 t.vals :: bk w.heap.size 124 (Tk.vals ⟨false, 0, false, 0⟩) :: [])) := Lib.hid ((H0.out.alloc zTk 124).sets (L' := t.vals) hBW2 hoW2)
    clear hBW2 hoW2
    have R2 := Lib.hid (Blk.box (H2.out.at 0 rfl)).range
    have HT : Hid (∀ W, Calls Tryd.prog 124 #[.agg t.vals.toArray] W fun e w' => e = .returned (.bool false) ∧ Below W.heap.size W w') := Lib.hid fun W => by
      have := tkRight_any t W
      rwa [Hok.out, show decide (q4 ≠ 4095) = false by simp [Hh.out]] at this
    go_upto_region 5 with (first
      | (with_reducible refine wpList_load_rng (ty := 124) t.vals (by with_unfolding_all rfl) R2.out Tryd.underlying124 (by with_unfolding_all rfl) (by with_unfolding_all exact info124) ?_)
      | ((with_reducible refine (HT.out _).mono ?_)
         rintro e w3 ⟨rfl, hb3⟩
         have H3 := Lib.hid (H2.out.ext hb3)
         clear hb3))
    have B3 := Lib.hid (H3.out.at 1 rfl)
    go_wp2_with (first
      | (with_reducible refine wpList_buildA (t := 124) [] (Tk.vals ⟨false, 0, false, 0⟩) (by with_unfolding_all rfl) tk_built0 ?_)
      | (with_reducible refine wpList_store_blk (ty := 124) (o := 0) _ (Tk.vals ⟨false, 0, false, 0⟩) (by with_unfolding_all rfl) (by with_unfolding_all rfl) B3.out (by with_unfolding_all exact Nat.le_refl _) (by with_unfolding_all exact info124) (Tk.one _) (fun W4 hBW4 hoW4 => ?_)))
    have h4 := (H3.out.pull 1 rfl).sets (L' := Tk.vals ⟨false, 0, false, 0⟩) hBW4 hoW4
    refine ret_cell2 (cs := Tk.vals ⟨false, 0, false, 0⟩) Tryd.results76 (by rfl) (by rfl) (Blk.box h4.head).range Tryd.underlying124 rfl info124 rfl ⟨rfl, h4.below⟩
  · rw [if_neg h]
    have Hh := Lib.hid h
    clear h
    go_enter Tryd.func76, Tryd.ntmps76
    go_upto_region 1 with (fail)
    generalize World.alloc _ _ = w1 at *
    have H0 : Hid (St w.heap.size w w1 (bk w.heap.size 124 (Tk.vals ⟨false, 0, false, 0⟩) :: [])) := H0
    go_upto_region 4 with (first
      | (with_reducible refine wpList_buildA (t := 124) [(0, .bool s), (1, .int .i64 (q1 : Int)), (2, .bool d), (3, .int .i64 (q4 : Int))] t.vals (by with_unfolding_all rfl) Htb.out ?_)
      | (with_reducible refine wpList_store_blk (ty := 124) (o := 0) _ t.vals (by with_unfolding_all rfl) (by with_unfolding_all rfl) (Blk.new w1 zTk 124) (by with_unfolding_all exact Nat.le_refl _) (by with_unfolding_all exact info124) (Tk.one _) (fun W2 hBW2 hoW2 => ?_)))
    have H2 : Hid (St w.heap.size w W2 (bk w1.heap.size 124 t.vals :: bk w.heap.size 124 (Tk.vals ⟨false, 0, false, 0⟩) :: [])) := Lib.hid ((H0.out.alloc zTk 124).sets (L' := t.vals) hBW2 hoW2)
    clear hBW2 hoW2
    have R2 := Lib.hid (Blk.box (H2.out.at 0 rfl)).range
    have HT : Hid (∀ W, Calls Tryd.prog 124 #[.agg t.vals.toArray] W fun e w' => e = .returned (.bool true) ∧ Below W.heap.size W w') := Lib.hid fun W => by
      have := tkRight_any t W
      rwa [Hok.out, show decide (q4 ≠ 4095) = true by simp [Hh.out]] at this
    go_upto_region 6 with (first
      | (with_reducible refine wpList_load_rng (ty := 124) t.vals (by with_unfolding_all rfl) R2.out Tryd.underlying124 (by with_unfolding_all rfl) (by with_unfolding_all exact info124) ?_)
      | ((with_reducible refine (HT.out _).mono ?_)
         rintro e w3 ⟨rfl, hb3⟩
         have H3 := Lib.hid (H2.out.ext hb3)
         clear hb3))
    have B3 := Lib.hid (H3.out.at 1 rfl)
    have R3 := Lib.hid (Blk.box (H3.out.at 0 rfl)).range
    go_wp2_with (first
      | (with_reducible refine wpList_load_rng (ty := 124) t.vals (by with_unfolding_all rfl) R3.out Tryd.underlying124 (by with_unfolding_all rfl) (by with_unfolding_all exact info124) ?_)
      | (with_reducible refine wpList_store_blk (ty := 124) (o := 0) _ t.vals (by with_unfolding_all rfl) (by with_unfolding_all rfl) B3.out (by with_unfolding_all exact Nat.le_refl _) (by with_unfolding_all exact info124) (Tk.one _) (fun W4 hBW4 hoW4 => ?_)))
    have h4 := (H3.out.pull 1 rfl).sets (L' := t.vals) hBW4 hoW4
    refine ret_cell2 (cs := t.vals) Tryd.results76 (by rfl) (by rfl) (Blk.box h4.head).range Tryd.underlying124 rfl info124 rfl ⟨rfl, h4.below⟩
section
variable {B : Nat} {w0 w : World} {A : List It} {b g : Nat} {R : RS}
/-- Sub: a Reader of the next n bytes; if they are missing, only the new one is known of. -/
theorem sub_st (H : St B w0 w (rd b R g :: A)) (n : Nat) (hn : n ≤ 4611686018427387904) (he : R.err = none) :
    Calls Tryd.prog 78 #[.pointer (some ⟨b, 0, none⟩), .int .i64 (n : Int)] w fun e w' => ∃ q g', e = .returned (.pointer (some ⟨q, 0, none⟩)) ∧
      ((subM R n).2.err = none → St B w0 w' (rd q (subM R n).1 g' :: rd b (subM R n).2 g' :: A)) ∧ ((subM R n).2.err ≠ none → St B w0 w' (rd q (subM R n).1 g' :: A)) := by
  have hlim := H.rdp.ok.lim
  have hle := H.rdp.ok.le
  have hsub : subM R n = (⟨(bytesM R n).1, 0, R.place, (bytesM R n).2.err⟩, (bytesM R n).2) := rfl
  have hpl : R.place = R.off + R.at_ := rfl
  go_enter Tryd.func78, Tryd.ntmps78
  go_wp2_with fail
  refine (at_st H).mono ?_
  rintro e w1 ⟨rfl, h1⟩
  have H1 := Lib.hid h1
  obtain ⟨pl, hpl'⟩ : ∃ p, R.place = p := ⟨_, rfl⟩
  rw [hpl']
  rw [hpl'] at hsub hpl
  have Hpl := Lib.hid hpl
  clear hpl' hpl
  go_wp2_with fail
  refine (bytes_e H1.out n hn).mono ?_
  rintro e w2 ⟨c, R', eb, lc, rfl, g', h2⟩
  rw [eb] at hsub
  have H2 := Lib.hid h2
  obtain ⟨c0, c1, c2, c3, z1, z3, lt2⟩ := h2.rdp.rd
  cases her : R'.err with
  | none =>
    rw [errV_none her] at c3
    have hlen : R.at_ + n ≤ R.s.length ∧ c.length ≤ n := by
      unfold bytesM at eb
      rw [he] at eb
      simp only [] at eb
      by_cases hq : R.at_ + n ≤ R.s.length
      · rw [if_pos hq] at eb
        obtain ⟨rfl, rfl⟩ := Prod.mk.inj eb
        exact ⟨hq, by simp only [List.length_take]; omega⟩
      · rw [if_neg hq] at eb
        obtain ⟨rfl, rfl⟩ := Prod.mk.inj eb
        cases her
    have Hsub := Lib.hid hsub
    have Hlen := Lib.hid hlen
    have Her := Lib.hid her
    clear hsub hlen her eb
    go_wp2_with fail
    go_ret
    refine ⟨w2.heap.size, g', rfl, fun _ => ?_, fun h => absurd Her.out (by rw [Hsub.out] at h; exact h)⟩
    rw [Hsub.out]
    simp only [Her.out]
    have hok : (⟨c, 0, pl, none⟩ : RS).ok := ⟨Nat.zero_le _, by show pl + c.length ≤ _; have := Hlen.out; have := Hpl.out; omega⟩
    refine H2.out.add ((Below.refl _ _).alloc (Nat.le_refl _) _) ⟨hok, ?_, fun e p h => by cases h⟩ (fun x hx => ?_)
    · rw [errV_none rfl]
      refine ⟨?_, ?_, ?_, ?_, ?_, ?_, ?_⟩
      all_goals first | (rw [World.cell?_alloc_mark]; rfl) | (rw [World.frozen?_alloc_mark]; rfl) | simp
    · rw [rd_gs_none rfl] at hx
      rw [List.mem_singleton.1 hx]; exact Nat.le_refl _
  | some y =>
    rw [errV_some her] at c3
    obtain ⟨e1, e2, e3⟩ := h2.rdp.err y.1 y.2 (by rw [her])
    have hc : c = [] := by
      unfold bytesM at eb
      rw [he] at eb
      simp only [] at eb
      by_cases hq : R.at_ + n ≤ R.s.length
      · rw [if_pos hq] at eb
        obtain ⟨rfl, rfl⟩ := Prod.mk.inj eb
        simp only [he] at her
        cases her
      · rw [if_neg hq] at eb
        exact (Prod.mk.inj eb).1.symm
    subst hc
    have Hsub := Lib.hid hsub
    have Her := Lib.hid her
    have E1 := Lib.hid e1
    have E2 := Lib.hid e2
    have E3 := Lib.hid e3
    clear hsub her eb e1 e2 e3
    go_wp2_with fail
    go_ret
    refine ⟨w2.heap.size, g', rfl, fun h => absurd (by rw [Hsub.out] at h; exact h) (by rw [Her.out]; simp), fun _ => ?_⟩
    rw [Hsub.out]
    simp only [Her.out]
    have hok : (⟨[], 0, pl, some y⟩ : RS).ok := ⟨Nat.zero_le _, by show pl + 0 ≤ _; have := Hpl.out; omega⟩
    have hb : Below w2.heap.size w2 (w2.alloc (.cells #[.string ⟨#[]⟩, .int .i64 0, .int .i64 (pl : Int), .iface 130 (.pointer (some ⟨g', 0, none⟩))] 193)) := (Below.refl _ _).alloc (Nat.le_refl _) _
    refine H2.out.step (Fr.of_below hb _) ⟨hok, ?_, fun e p h => ?_⟩ (fun x hx => ?_)
    · rw [errV_some rfl]
      refine ⟨?_, ?_, ?_, ?_, ?_, ?_, ?_⟩
      all_goals first | (rw [World.cell?_alloc_mark]; rfl) | (rw [World.frozen?_alloc_mark]; rfl) | simp
    · injection h with h
      subst h
      exact ⟨Nat.lt_of_lt_of_le E1.out hb.size, (hb.cell (p := ⟨g', 0, none⟩) E1.out).trans E2.out, (hb.cell (p := ⟨g', 1, none⟩) E1.out).trans E3.out⟩
    · rw [rd_gs_some rfl] at hx
      rcases List.mem_cons.1 hx with rfl | hx
      · exact .inr (Nat.le_refl _)
      · rw [List.mem_singleton.1 hx, rd_gs_some Her.out]
        exact .inl (List.mem_cons_of_mem _ (List.mem_singleton.2 rfl))
set_option maxRecDepth 100000 in
set_option maxHeartbeats 4000000 in
theorem long_st {P : Nat} {tv : Value} (f : Fu) (H : St B w0 w (rd b R g :: bk P 57 (f.vals tv) :: A)) :
    Calls Tryd.prog 79 #[.pointer (some ⟨P, 0, none⟩), .pointer (some ⟨b, 0, none⟩)] w fun e w' => ∃ g', e = .returned (.tuple #[]) ∧ St B w0 w' (rd b (longM f R).2 g' :: bk P 57 ((longM f R).1.vals tv) :: A) := by
  obtain ⟨ds, sr, tg, kd, ty, da, sa, ct, ou, pi, bo⟩ := f
  have c13 : w.cell? ⟨P, 13, none⟩ = some (.int .i64 kd) := (H.pull 1 rfl).cell 13
  have z13 := (H.pull 1 rfl).frozen 13
  have H1 : Hid (St B w0 (w.setCell ⟨P, 13, none⟩ (.int .i64 2)) (rd b R g :: bk P 57 (Fu.vals ⟨ds, sr, tg, 2, ty, da, sa, ct, ou, pi, bo⟩ tv) :: A)) := Lib.hid ((H.pull 1 rfl).set 13 (.int .i64 2) (by simp [Fu.len])).swap
  clear H
  have HL : Hid (∀ a Ra b Rb c Rc, numM R 1 = (a, Ra) → numM Ra 1 = (b, Rb) → numM Rb 1 = (c, Rc) → ¬ (a = 170 ∧ b = 170 ∧ c = 3) → longM ⟨ds, sr, tg, kd, ty, da, sa, ct, ou, pi, bo⟩ R = (⟨ds, sr, tg, 2, ty, (a : Int), (b : Int), (c : Int), ou, pi, (allM Rc).1⟩, (allM Rc).2)) := Lib.hid (fun a Ra b Rb c Rc e1 e2 e3 hn => by
    unfold longM
    simp only [e1, e2, e3]
    rw [if_neg hn])
  have HS : Hid (∀ a Ra b Rb c Rc o Ro p Rp, numM R 1 = (a, Ra) → numM Ra 1 = (b, Rb) → numM Rb 1 = (c, Rc) → (a = 170 ∧ b = 170 ∧ c = 3) → numM Rc 3 = (o, Ro) → numM Ro 2 = (p, Rp) → longM ⟨ds, sr, tg, kd, ty, da, sa, ct, ou, pi, bo⟩ R = (⟨ds, sr, tg, 3, ty, 0, 0, 0, (o : Int), (p : Int), (allM Rp).1⟩, (allM Rp).2)) := Lib.hid (fun a Ra b Rb c Rc o Ro p Rp e1 e2 e3 hn e4 e5 => by
    unfold longM
    simp only [e1, e2, e3]
    rw [if_pos hn]
    simp only [e4, e5])
  go_enter Tryd.func79, Tryd.ntmps79
  go_upto_region 1 with (fail)
  clear c13 z13
  generalize World.setCell _ _ _ = w1 at *
  go_wp2_with fail
  refine (num_e H1.out 1 (by decide) (by decide)).mono ?_
  rintro e w2 ⟨n2, R2, e2, l2, rfl, g2, h2⟩
  have E2 := Lib.hid e2
  have H2 := Lib.hid h2
  clear e2 h2 H1
  go_wp2_with fail
  refine (num_e H2.out 1 (by decide) (by decide)).mono ?_
  rintro e w3 ⟨n3, R3, e3, l3, rfl, g3, h3⟩
  have E3 := Lib.hid e3
  have H3 := Lib.hid h3
  clear e3 h3 H2
  go_wp2_with fail
  refine (num_e H3.out 1 (by decide) (by decide)).mono ?_
  rintro e w4 ⟨n4, R4, e4, l4, rfl, g4, h4⟩
  have E4 := Lib.hid e4
  have H4 := Lib.hid h4
  clear e4 h4 H3
  have c15 : w4.cell? ⟨P, 15, none⟩ = some (.int .i64 da) := (H4.out.pull 1 rfl).cell 15
  have z15 := (H4.out.pull 1 rfl).frozen 15
  have c16 : w4.cell? ⟨P, 16, none⟩ = some (.int .i64 sa) := (H4.out.pull 1 rfl).cell 16
  have z16 := (H4.out.pull 1 rfl).frozen 16
  have c17 : w4.cell? ⟨P, 17, none⟩ = some (.int .i64 ct) := (H4.out.pull 1 rfl).cell 17
  have z17 := (H4.out.pull 1 rfl).frozen 17
  go_upto_region 2 with (fail)
  have h5 := ((((H4.out.pull 1 rfl).set 15 (.int .i64 (n2 : Int)) (by simp [Fu.len])).set 16 (.int .i64 (n3 : Int)) (by simp [Fu.len])).set 17 (.int .i64 (n4 : Int)) (by simp [Fu.len])).swap
  have H5 : Hid (St B w0 _ (rd b R4 g4 :: bk P 57 (Fu.vals ⟨ds, sr, tg, 2, ty, n2, n3, n4, ou, pi, bo⟩ tv) :: A)) := Lib.hid h5
  clear h5 c15 z15 c16 z16 c17 z17 H4
  generalize World.setCell _ _ _ = w5 at *
  have I5 := fu_in (f := ⟨ds, sr, tg, 2, ty, n2, n3, n4, ou, pi, bo⟩) (Blk.box (H5.out.at 1 rfl))
  have k15 := I5.dsap
  have k16 := I5.ssap
  have k17 := I5.ctl
  simp only [] at k15 k16 k17
  clear I5
  obtain ⟨cond, hcd⟩ : ∃ c, decide (n2 = 170 ∧ n3 = 170 ∧ n4 = 3) = c := ⟨_, rfl⟩
  have Hcd := Lib.hid hcd
  clear hcd
  go_cut [40] (fun c wx => c = .bool cond ∧ wx = w5)
  case first =>
    by_cases h2 : n2 = 170
    rotate_left
    · obtain rfl : cond = false := by rw [← Hcd.out]; simp [h2]
      have b2 : ((n2 : Int) == 170) = false := by rw [beq_eq_false_iff_ne]; omega
      clear h2
      go_wp2_with fail
      go_meet
      exact ⟨rfl, rfl⟩
    have b2 : ((n2 : Int) == 170) = true := by rw [h2]; rfl
    by_cases h3 : n3 = 170
    rotate_left
    · obtain rfl : cond = false := by rw [← Hcd.out]; simp [h3]
      have b3 : ((n3 : Int) == 170) = false := by rw [beq_eq_false_iff_ne]; omega
      clear h2 h3
      go_wp2_with fail
      go_meet
      exact ⟨rfl, rfl⟩
    have b3 : ((n3 : Int) == 170) = true := by rw [h3]; rfl
    by_cases h4 : n4 = 3
    rotate_left
    · obtain rfl : cond = false := by rw [← Hcd.out]; simp [h4]
      have b4 : ((n4 : Int) == 3) = false := by rw [beq_eq_false_iff_ne]; omega
      clear h2 h3 h4
      go_wp2_with fail
      go_meet
      exact ⟨rfl, rfl⟩
    have b4 : ((n4 : Int) == 3) = true := by rw [h4]; rfl
    obtain rfl : cond = true := by rw [← Hcd.out]; simp [h2, h3, h4]
    clear h2 h3 h4
    go_wp2_with fail
    go_meet
    exact ⟨rfl, rfl⟩
  case rest =>
  obtain ⟨rfl, rfl⟩ := hcut
  go_upto_if 40 with (fail)
  cases cond
  · have hl := HL.out n2 R2 n3 R3 n4 R4 E2.out E3.out E4.out (of_decide_eq_false Hcd.out)
    have Hl := Lib.hid hl
    have hq : allM R4 = bytesM R4 (R4.s.length - R4.at_) := rfl
    have Hq := Lib.hid hq
    have hle := H5.out.rdp.ok.lim
    clear hl hq HL HS k15 k16 k17
    go_wp2_with fail
    refine (left_st H5.out).mono ?_
    rintro e w6 ⟨rfl, h6⟩
    have H6 := Lib.hid h6
    clear h6 H5
    go_wp2_with fail
    refine (bytes_e H6.out (R4.s.length - R4.at_) (by omega)).mono ?_
    rintro e w7 ⟨c7, R7, e7, l7, rfl, g7, h7⟩
    have H7 := Lib.hid h7
    rw [← Hq.out] at e7
    have HE := Lib.hid (Hl.out.trans (by rw [e7] : _ = ((⟨ds, sr, tg, 2, ty, n2, n3, n4, ou, pi, c7⟩ : Fu), R7)))
    clear h7 H6 e7
    have c20 : w7.cell? ⟨P, 20, none⟩ = some (.string ⟨bo.toArray⟩) := (H7.out.pull 1 rfl).cell 20
    have z20 := (H7.out.pull 1 rfl).frozen 20
    go_wp2_with fail
    go_returns
    exact ⟨g7, rfl, by rw [HE.out]; exact ((H7.out.pull 1 rfl).set 20 (.string ⟨c7.toArray⟩) (by simp [Fu.len])).swap⟩
  · have k13 := (fu_in (f := ⟨ds, sr, tg, 2, ty, n2, n3, n4, ou, pi, bo⟩) (Blk.box (H5.out.at 1 rfl))).kind
    simp only [] at k13
    have y13 := (H5.out.pull 1 rfl).frozen 13
    have y15 := (H5.out.pull 1 rfl).frozen 15
    have y16 := (H5.out.pull 1 rfl).frozen 16
    have y17 := (H5.out.pull 1 rfl).frozen 17
    go_upto_region 4 with (fail)
    have h6 := (((((H5.out.pull 1 rfl).set 13 (.int .i64 3) (by simp [Fu.len])).set 15 (.int .i64 0) (by simp [Fu.len])).set 16 (.int .i64 0) (by simp [Fu.len])).set 17 (.int .i64 0) (by simp [Fu.len])).swap
    have H6 : Hid (St B w0 _ (rd b R4 g4 :: bk P 57 (Fu.vals ⟨ds, sr, tg, 3, ty, 0, 0, 0, ou, pi, bo⟩ tv) :: A)) := Lib.hid h6
    clear h6 k13 y13 y15 y16 y17 k15 k16 k17 H5
    generalize World.setCell _ _ _ = w6 at *
    go_wp2_with fail
    refine (num_e H6.out 3 (by decide) (by decide)).mono ?_
    rintro e w7 ⟨n7, R7, e7, l7, rfl, g7, h7⟩
    have E7 := Lib.hid e7
    have H7 := Lib.hid h7
    clear e7 h7 H6
    go_wp2_with fail
    refine (num_e H7.out 2 (by decide) (by decide)).mono ?_
    rintro e w8 ⟨n8, R8, e8, l8, rfl, g8, h8⟩
    have E8 := Lib.hid e8
    have H8 := Lib.hid h8
    clear e8 h8 H7
    have k18 : w8.cell? ⟨P, 18, none⟩ = some (.int .i64 ou) := (H8.out.pull 1 rfl).cell 18
    have y18 := (H8.out.pull 1 rfl).frozen 18
    have k19 : w8.cell? ⟨P, 19, none⟩ = some (.int .i64 pi) := (H8.out.pull 1 rfl).cell 19
    have y19 := (H8.out.pull 1 rfl).frozen 19
    go_upto_region 5 with (fail)
    have h9 := (((H8.out.pull 1 rfl).set 18 (.int .i64 (n7 : Int)) (by simp [Fu.len])).set 19 (.int .i64 (n8 : Int)) (by simp [Fu.len])).swap
    have H9 : Hid (St B w0 _ (rd b R8 g8 :: bk P 57 (Fu.vals ⟨ds, sr, tg, 3, ty, 0, 0, 0, n7, n8, bo⟩ tv) :: A)) := Lib.hid h9
    clear h9 k18 y18 k19 y19 H8
    generalize World.setCell _ _ _ = w9 at *
    have hl := HS.out n2 R2 n3 R3 n4 R4 n7 R7 n8 R8 E2.out E3.out E4.out (of_decide_eq_true Hcd.out) E7.out E8.out
    have Hl := Lib.hid hl
    have hq : allM R8 = bytesM R8 (R8.s.length - R8.at_) := rfl
    have Hq := Lib.hid hq
    have hle := H9.out.rdp.ok.lim
    clear hl hq HL HS
    go_wp2_with fail
    refine (left_st H9.out).mono ?_
    rintro e w10 ⟨rfl, h10⟩
    have H10 := Lib.hid h10
    clear h10 H9
    go_wp2_with fail
    refine (bytes_e H10.out (R8.s.length - R8.at_) (by omega)).mono ?_
    rintro e w11 ⟨c11, R11, e11, l11, rfl, g11, h11⟩
    have H11 := Lib.hid h11
    rw [← Hq.out] at e11
    have HE := Lib.hid (Hl.out.trans (by rw [e11] : _ = ((⟨ds, sr, tg, 3, ty, 0, 0, 0, n7, n8, c11⟩ : Fu), R11)))
    clear h11 H10 e11
    have c20 : w11.cell? ⟨P, 20, none⟩ = some (.string ⟨bo.toArray⟩) := (H11.out.pull 1 rfl).cell 20
    have z20 := (H11.out.pull 1 rfl).frozen 20
    go_wp2_with fail
    go_returns
    exact ⟨g11, rfl, by rw [HE.out]; exact ((H11.out.pull 1 rfl).set 20 (.string ⟨c11.toArray⟩) (by simp [Fu.len])).swap⟩
end
end Go.Proofs.YteibhcocldihbaaDoor

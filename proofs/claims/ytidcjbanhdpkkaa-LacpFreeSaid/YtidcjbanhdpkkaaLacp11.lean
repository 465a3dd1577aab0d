/- LacpFree. -/
import Derived.Test.YtidcjbanhdpkkaaLacp10
import Derived.Test.YtidcjbanhdpkkaaItems
import Derived.Test.YtidcjbanhdpkkaaPick
import Derived.Test.YtidcjbanhdpkkaaOpenA
namespace Go.Proofs.Ytidcjbanhdpkkaa
open Go.RowKit
theorem elemI : ElemOk Try.prog 36 3 1 8 := by
  have h : (Try.prog.info? 3).map (fun i => (i.zero, i.size, i.bytes)) = some (some (.int .i64 0), 1, 8) := by kernel_rfl
  obtain ⟨i, hi, hz, hs, hb⟩ := info_parts h
  exact ⟨Try.underlying36, i, _, hi, hz, hs, hb, rfl, by decide⟩
def free1 (j : Nat) : List Int := [19, 20, 21, 39, 40, 41] ++ (List.range j).map (fun (i : Nat) => (46 : Int) + (i : Int))
def free2 (j : Nat) : List Int := free1 12 ++ (List.range j).map (fun (i : Nat) => (60 : Int) + (i : Int))
theorem free1_len (j : Nat) : (free1 j).length = 6 + j := by simp [free1]; omega
theorem free2_len (j : Nat) : (free2 j).length = 18 + j := by simp [free2, free1_len]
theorem free1_snoc (j : Nat) : free1 (j + 1) = free1 j ++ [(46 : Int) + (j : Int)] := by simp [free1, List.range_succ]
theorem free2_snoc (j : Nat) : free2 (j + 1) = free2 j ++ [(60 : Int) + (j : Int)] := by simp [free2, List.range_succ]
theorem free_at : ∀ p : Fin 68, ∃ k : Fin 110, (free2 50)[p.val]? = some ((k.val : Nat) : Int) ∧ ((19 ≤ k.val ∧ k.val ≤ 21) ∨ (39 ≤ k.val ∧ k.val ≤ 41) ∨ (46 ≤ k.val ∧ k.val ≤ 57) ∨ (60 ≤ k.val ∧ k.val ≤ 109)) := by decide +kernel
theorem wpAnyG_two {P : Program} {ops : Array Oper} {Q : Exit → Act → World → Prop} {md : Region.Mode} {S : World → Prop} {k : Nat} {fuel : Nat} {listed : Array Bool} {a : Act} {w : World} (i j : Nat) {o u : Oper} (hr : Region.ready md ops listed = [i, j]) (ho : ops[i]? = some o) (hu : ops[j]? = some u) (hgd : o.guard = none) (hgu : u.guard = none)
    (h : ∀ K' : Act → World → Prop, Shut (∀ a w, (i ≠ k → S w) → ((i ≠ k → S w) → wpAnyG P md ops Q S k fuel (listed.setIfInBounds i true) a w) → K' a w) → Oper.wp P o a w K' Q)
    (h2 : ∀ K' : Act → World → Prop, Shut (∀ a w, (j ≠ k → S w) → ((j ≠ k → S w) → wpAnyG P md ops Q S k fuel (listed.setIfInBounds j true) a w) → K' a w) → Oper.wp P u a w K' Q) :
    wpAnyG P md ops Q S k (fuel + 1) listed a w := by
  refine ⟨fun h0 => (by rw [hr] at h0; cases h0), fun q hq => ?_⟩
  rw [hr] at hq
  rcases List.mem_cons.1 hq with rfl | hq
  · unfold wpOp
    simp only [ho]
    rw [if_pos (by simp [Region.wanted, hgd])]
    exact .inl (h _ (fun a w h1 h2 => ⟨h1, h2 h1⟩))
  · rw [List.mem_singleton] at hq
    subst hq
    unfold wpOp
    simp only [hu]
    rw [if_pos (by simp [Region.wanted, hgu])]
    exact .inl (h2 _ (fun a w h1 h2 => ⟨h1, h2 h1⟩))
theorem oper_conv {P : Program} {d : Tmp} {s t : TypeId} {x : Operand} {t' : TypeId} {pos : String} {after : Array Edge} {a : Act} {w : World} {K : Act → World → Prop} {Q : Exit → Act → World → Prop} {v : Value}
    (hr : (convert s t (a.eval x)).run P w = .ok v w) (h : K (a.put (some d) v) w) : Oper.wp P ⟨some d, .convert s t x, t', pos, after, none⟩ a w K Q := by
  unfold Oper.wp execOp
  simp only [Sem.run_bind, Sem.run_map, hr]
  exact h
theorem conv1 {w : World} {g : Nat} (c : UInt8) (h : Blk w g 5 [.int .u8 (c.toNat : Int)]) : (convert 61 9 (.slice (some ⟨g, 0, none⟩) 1 1)).run Try.prog w = .ok (.string ⟨#[c]⟩) w :=
  run_convert_bytes_back (P := Try.prog) w 61 9 5 ⟨g, 0, none⟩ 1 [c] Try.underlying61 Try.underlying5 Try.underlying9 (fun j hj => by
    rw [Addr.add_lit, Nat.zero_add, h.box.cell]
    match j, hj with
    | 0, _ => rfl)
theorem St.allocg {B : Nat} {w0 w : World} {A : List It} (h : St B w0 w A) (L : List Value) (t : TypeId) (g : Nat) (hg : w.heap.size = g) : St B w0 (w.alloc (.cells L.toArray t)) (bk g t L :: A) := by
  subst hg; exact h.alloc L t
theorem set_cut (S : List UInt8) (k : Nat) (c : UInt8) (hk : k < S.length) : S.take k ++ ([c] ++ S.drop (k + 1)) = S.set k c := by
  rw [List.set_eq_take_append_cons_drop, if_pos hk]; rfl
set_option maxRecDepth 100000 in
set_option maxHeartbeats 2000000 in
theorem law_LacpFree (v : Value) (l : Lac) (pa : Int) (c : Int) (_ : (Lit.int .i64 pa).wf = true) (hc : (Lit.int .u8 c).wf = true) (w : World) (hv : v = .agg l.vals.toArray) :
    Calls Try.prog 8 #[v, .int .i64 pa, .int .u8 c] w fun e w' => e = .returned (.bool true) ∧ Below w.heap.size w w' := by
  subst hv
  have H0 := Lib.hid ((St.init w).alloc l.vals 56)
  obtain ⟨c, rfl⟩ := u8_of hc
  clear hc
  cases hk : l.okB
  · have HW := Lib.hid (lacWrite_no l hk)
    clear hk
    unfold erV at HW
    go_enter Try.func8, Try.ntmps8
    go_upto_region 1 with (fail)
    generalize World.alloc _ _ = w0 at *
    go_wp2_with (first
      | ((with_reducible refine (linked_any _).mono ?_)
         rintro e w1 ⟨rfl, hb1⟩
         have H1 := Lib.hid (H0.out.ext hb1)
         clear hb1)
      | (with_reducible refine wpList_load_rng (ty := 56) l.vals (by with_unfolding_all rfl) (Blk.box (H1.out.at 0 rfl)).range Try.underlying56 (by with_unfolding_all rfl) (by with_unfolding_all exact info56) ?_)
      | ((with_reducible refine (HW.out _).mono ?_)
         rintro e w2 ⟨rfl, hb2⟩
         have H2 := Lib.hid (H1.out.ext hb2)
         clear hb2))
    go_ret
    exact ⟨rfl, H2.out.below⟩
  · have HW := Lib.hid (lacWrite_ok l hk)
    have hlen := Lac.bytes_len l
    have HK := Lib.hid hk
    clear hk
    obtain ⟨S, hS⟩ : ∃ S, l.bytes = S := ⟨_, rfl⟩
    have HSe := Lib.hid hS
    rw [hS] at hlen HW
    clear hS
    have hlb : ((S.length : Int) != 110) = false := by rw [hlen]; rfl
    have hge : 110 ≤ S.length := by omega
    have hle : S.length ≤ 110 := by omega
    clear hlen
    go_enter Try.func8, Try.ntmps8
    go_upto_region 1 with (fail)
    generalize World.alloc _ _ = w0 at *
    go_upto_region 6 with (first
      | ((with_reducible refine (linked_any _).mono ?_)
         rintro e w1 ⟨rfl, hb1⟩
         have H1 := Lib.hid (H0.out.ext hb1)
         clear hb1)
      | (with_reducible refine wpList_load_rng (ty := 56) l.vals (by with_unfolding_all rfl) (Blk.box (H1.out.at 0 rfl)).range Try.underlying56 (by with_unfolding_all rfl) (by with_unfolding_all exact info56) ?_)
      | ((with_reducible refine (HW.out _).mono ?_)
         rintro e w2 ⟨rfl, hb2⟩
         have H2 := Lib.hid (H1.out.ext hb2)
         clear hb2))
    go_upto_region 7 with (fail)
    have H3 : Hid (St w.heap.size w _ (ownI 3 1 (.slice (some ⟨w2.heap.size, 0, none⟩) 6 6) 6 (intC (free1 0)) :: _ :: [])) := Lib.hid ((H2.out.alloc [.int .i64 19, .int .i64 20, .int .i64 21, .int .i64 39, .int .i64 40, .int .i64 41] 3).toOwn (n := 6) (size := 1) rfl (by decide))
    clear H2 H1 H0
    generalize World.alloc _ _ = w3 at *
    generalize w2.heap.size = G at *
    go_wp2_with fail
    go_loopw [9, 10] (fun s9 s10 wr => ∃ (k n g cap : Nat), 46 ≤ k ∧ k ≤ 58 ∧ s10 = .int .i64 (k : Int) ∧ s9 = .slice (some ⟨g, 0, none⟩) n cap ∧ Hid (n + 40 = k) ∧ Hid (St w.heap.size w wr (ownI 3 1 (.slice (some ⟨g, 0, none⟩) n cap) n (intC (free1 (k - 46))) :: bk w.heap.size 56 l.vals :: []))) (fun _ i _ => 58 - (intOf i).toNat)
    case atStart => exact ⟨46, 6, G, 6, by omega, by omega, rfl, rfl, Lib.hid rfl, H3⟩
    case round =>
      obtain ⟨k, n, g, cap, hk0, hk1, rfl, rfl, Hn, HR⟩ := hrel
      by_cases hlt : k < 58
      · go_wp2_with (first
          | (at_builtin; refine wpList_append_st (t := 36) (e := 3) (size := 1) (bytes := 8) (n := n) (m := 1) (c := 1) (intC (free1 (k - 46))) [.int .i64 (k : Int)] elemI (HR.out.ext ((Below.refl _ _).alloc (Nat.le_refl _) _)) (by with_unfolding_all rfl) (by with_unfolding_all rfl) (World.news_of_block (heap_alloc_new _ _)) rfl (intC_one [(k : Int)]) (by decide) (by have := Hn.out; unfold maxLen; omega) (by have := Hn.out; omega) (fun g2 cap2 W2 H2 => ?_)))
        have HR2 : Hid (St w.heap.size w W2 (ownI 3 1 (.slice (some ⟨g2, 0, none⟩) (n + 1) cap2) (n + 1) (intC (free1 (k + 1 - 46))) :: bk w.heap.size 56 l.vals :: [])) := Lib.hid (by
          have e : k + 1 - 46 = (k - 46) + 1 := by omega
          have e2 : ((46 : Int) + ((k - 46 : Nat) : Int)) = (k : Int) := by omega
          rw [e, free1_snoc, e2, intC_app]
          exact H2)
        clear H2
        go_roundw
        case rel => exact ⟨k + 1, n + 1, g2, cap2, by omega, by omega, by go_num, rfl, Lib.hid (by have := Hn.out; omega), HR2⟩
        case measure => simp [intOf]; omega
      · obtain rfl : k = 58 := by omega
        obtain rfl : n = 18 := by have := Hn.out; omega
        go_upto_region 11 with (fail)
        go_wp2_with fail
        go_loopw [9, 11] (fun s9 s10 wr => ∃ (k n g cap : Nat), 60 ≤ k ∧ k ≤ 110 ∧ s10 = .int .i64 (k : Int) ∧ s9 = .slice (some ⟨g, 0, none⟩) n cap ∧ Hid (n + 42 = k) ∧ Hid (St w.heap.size w wr (ownI 3 1 (.slice (some ⟨g, 0, none⟩) n cap) n (intC (free2 (k - 60))) :: bk w.heap.size 56 l.vals :: []))) (fun _ i _ => 110 - (intOf i).toNat)
        case atStart => exact ⟨60, 18, g, cap, by omega, by omega, rfl, rfl, Lib.hid rfl, Lib.hid HR.out⟩
        case round =>
          obtain ⟨k, n, g3, cap3, hk2, hk3, rfl, rfl, Hn2, HR2⟩ := hrel
          clear HR
          by_cases hlt : k < 110
          · go_wp2_with (first
              | (at_builtin; refine wpList_append_st (t := 36) (e := 3) (size := 1) (bytes := 8) (n := n) (m := 1) (c := 1) (intC (free2 (k - 60))) [.int .i64 (k : Int)] elemI (HR2.out.ext ((Below.refl _ _).alloc (Nat.le_refl _) _)) (by with_unfolding_all rfl) (by with_unfolding_all rfl) (World.news_of_block (heap_alloc_new _ _)) rfl (intC_one [(k : Int)]) (by decide) (by have := Hn2.out; unfold maxLen; omega) (by have := Hn2.out; omega) (fun g2 cap2 W2 H2 => ?_)))
            have HR3 : Hid (St w.heap.size w W2 (ownI 3 1 (.slice (some ⟨g2, 0, none⟩) (n + 1) cap2) (n + 1) (intC (free2 (k + 1 - 60))) :: bk w.heap.size 56 l.vals :: [])) := Lib.hid (by
              have e : k + 1 - 60 = (k - 60) + 1 := by omega
              have e2 : ((60 : Int) + ((k - 60 : Nat) : Int)) = (k : Int) := by omega
              rw [e, free2_snoc, e2, intC_app]
              exact H2)
            clear H2
            go_roundw
            case rel => exact ⟨k + 1, n + 1, g2, cap2, by omega, by omega, by go_num, rfl, Lib.hid (by have := Hn2.out; omega), HR3⟩
            case measure => simp [intOf]; omega
          · obtain rfl : k = 110 := by omega
            obtain rfl : n = 68 := by have := Hn2.out; omega
            go_upto_region 15 with (fail)
            have hp := pickN_lt pa 68 (by decide)
            obtain ⟨kk, hat, hkk⟩ := free_at ⟨pickN pa 68, hp⟩
            simp only [] at hat
            have hcell : wr.cell? ⟨g3, pickN pa 68, none⟩ = some (.int .i64 ((kk.val : Nat) : Int)) := own_at HR2.out.head _ _ (by
              show (intC (free2 50))[pickN pa 68]? = _
              unfold intC
              rw [List.getElem?_map, hat]; rfl)
            have hpk : Hid (∀ W, Calls Try.prog 12 #[.int .i64 pa, .int .i64 68] W fun e w' => e = .returned (.int .i64 (pickN pa 68 : Nat)) ∧ W = w') := Lib.hid (fun W => pick_any pa 68 W (by decide) (by decide))
            generalize pickN pa 68 = pk at *
            obtain ⟨kk, hkl⟩ := kk
            simp only [] at hcell hkk
            have Hkk := Lib.hid hkk
            clear hat hkk
            go_upto_region 18 with (first
              | ((with_reducible refine (hpk.out _).mono ?_)
                 rintro e w5 ⟨rfl, rfl⟩))
            clear hpk hcell
            have H5 := Lib.hid HR2.out.drew
            clear HR2
            have hk1 : kk < S.length := by omega
            have HRd : Hid (∀ W, Calls Try.prog 26 #[.string ⟨(S.take kk ++ c :: S.drop (kk + 1)).toArray⟩] W fun e w' => e = .returned (.tuple #[.agg l.vals.toArray, .nilIface]) ∧ Below W.heap.size W w') := Lib.hid (fun W => by
              have e1 : S.take kk ++ c :: S.drop (kk + 1) = S.set kk c := set_cut S kk c hk1
              obtain ⟨q1, q2, q3, q4, r1, r2, r3, r4, e2⟩ := l.bytesF_set [0, 0, 0] [0, 0, 0] (List.replicate 12 0) (List.replicate 50 0) rfl rfl (by simp) (by simp) kk c Hkk.out
              rw [e1, ← HSe.out, Lac.bytes_eq, e2]
              exact lacRead_free l HK.out q1 q2 q3 q4 r1 r2 r3 r4 W)
            have hk6 : ¬ 9223372036854775807 < kk + 1 := by omega
            have hk7 : ¬ 9223372036854775807 < kk + (S.length - (kk + 1) + 1) := by omega
            have hk8 : ¬ 9223372036854775807 < kk + 1 + (S.length - (kk + 1)) := by omega
            have hk9 : ¬ 9223372036854775807 < S.length := by omega
            have EL := lac_eq l
            have GL := fun p q => lac_guard l p q
            have hk2 : kk ≤ S.length := by omega
            have hk3 : kk + 1 ≤ S.length := by omega
            have hk4 : (0 : Int) ≤ (kk : Int) + 1 := by omega
            have hk5 : (kk : Int) + 1 ≤ (S.length : Int) := by omega
            have hw1 : IntKind.i64.wrap ((kk : Int) + 1) = ((kk + 1 : Nat) : Int) := by rw [IntKind.wrap_i64]; omega
            refine wp_region_last (fun _ => True) 18 (by kernel_rfl) trivial (fun hHeld => ?_)
            refine wpAnyG_take 0 (oi := ?o9) ?v9 ?hi9 (by kernel_rfl) (by kernel_rfl) (by decide) (by kernel_rfl) (by kernel_rfl) ?hq9 ?hg9 ?hy9 (by assumption) ?hk9
            case hi9 => (simp only [List.getElem?_toArray, List.getElem?_cons_succ, List.getElem?_cons_zero]; rfl)
            case hq9 => exact fun _ _ _ h => h
            case hg9 => rfl
            case hy9 => (intro X hX; go_simp; try with_reducible rfl)
            try simp only [Act.put, List.setIfInBounds_toArray, List.set_cons_zero, List.set_cons_succ]
            refine wpAnyG_take 1 (oi := ?o10) ?v10 ?hi10 (by kernel_rfl) (by kernel_rfl) (by decide) (by kernel_rfl) (by kernel_rfl) ?hq10 ?hg10 ?hy10 (by assumption) ?hk10
            case hi10 => (simp only [List.getElem?_toArray, List.getElem?_cons_succ, List.getElem?_cons_zero]; rfl)
            case hq10 => exact fun _ _ _ h => h
            case hg10 => rfl
            case hy10 => (intro X hX; go_simp; try with_reducible rfl)
            try simp only [Act.put, List.setIfInBounds_toArray, List.set_cons_zero, List.set_cons_succ]
            refine wpAnyG_take 2 (oi := ?o11) ?v11 ?hi11 (by kernel_rfl) (by kernel_rfl) (by decide) (by kernel_rfl) (by kernel_rfl) ?hq11 ?hg11 ?hy11 (by assumption) ?hk11
            case hi11 => (simp only [List.getElem?_toArray, List.getElem?_cons_succ, List.getElem?_cons_zero]; rfl)
            case hq11 => exact fun _ _ _ h => h
            case hg11 => rfl
            case hy11 => (intro X hX; go_simp; try with_reducible rfl)
            try simp only [Act.put, List.setIfInBounds_toArray, List.set_cons_zero, List.set_cons_succ]
            refine wpAnyG_take 3 (oi := ?o12) ?v12 ?hi12 (by kernel_rfl) (by kernel_rfl) (by decide) (by kernel_rfl) (by kernel_rfl) ?hq12 ?hg12 ?hy12 (by assumption) ?hk12
            case hi12 => (simp only [List.getElem?_toArray, List.getElem?_cons_succ, List.getElem?_cons_zero]; rfl)
            case hq12 => exact fun _ _ _ h => h
            case hg12 => rfl
            case hy12 => (intro X hX; go_simp; try with_reducible rfl)
            try simp only [Act.put, List.setIfInBounds_toArray, List.set_cons_zero, List.set_cons_succ]
            refine wpAnyG_take 7 (oi := ?o13) ?v13 ?hi13 (by kernel_rfl) (by kernel_rfl) (by decide) (by kernel_rfl) (by kernel_rfl) ?hq13 ?hg13 ?hy13 (by assumption) ?hk13
            case hi13 => (simp only [List.getElem?_toArray, List.getElem?_cons_succ, List.getElem?_cons_zero]; rfl)
            case hq13 => exact fun _ _ _ h => h
            case hg13 => rfl
            case hy13 => (intro X hX; go_simp; try with_reducible rfl)
            try simp only [Act.put, List.setIfInBounds_toArray, List.set_cons_zero, List.set_cons_succ]
            refine wpAnyG_take 8 (oi := ?o14) ?v14 ?hi14 (by kernel_rfl) (by kernel_rfl) (by decide) (by kernel_rfl) (by kernel_rfl) ?hq14 ?hg14 ?hy14 (by assumption) ?hk14
            case hi14 => (simp only [List.getElem?_toArray, List.getElem?_cons_succ, List.getElem?_cons_zero]; rfl)
            case hq14 => exact fun _ _ _ h => h
            case hg14 => rfl
            case hy14 => (intro X hX; go_simp; try with_reducible rfl)
            try simp only [Act.put, List.setIfInBounds_toArray, List.set_cons_zero, List.set_cons_succ]
            refine wpAnyG_take 9 (oi := ?o15) ?v15 ?hi15 (by kernel_rfl) (by kernel_rfl) (by decide) (by kernel_rfl) (by kernel_rfl) ?hq15 ?hg15 ?hy15 (by assumption) ?hk15
            case hi15 => (simp only [List.getElem?_toArray, List.getElem?_cons_succ, List.getElem?_cons_zero]; rfl)
            case hq15 => exact fun _ _ _ h => h
            case hg15 => rfl
            case hy15 => (intro X hX; go_simp; try with_reducible rfl)
            try simp only [Act.put, List.setIfInBounds_toArray, List.set_cons_zero, List.set_cons_succ]
            refine wpAnyG_take 10 (oi := ?o16) ?v16 ?hi16 (by kernel_rfl) (by kernel_rfl) (by decide) (by kernel_rfl) (by kernel_rfl) ?hq16 ?hg16 ?hy16 (by assumption) ?hk16
            case hi16 => (simp only [List.getElem?_toArray, List.getElem?_cons_succ, List.getElem?_cons_zero]; rfl)
            case hq16 => exact fun _ _ _ h => h
            case hg16 => rfl
            case hy16 => (intro X hX; go_simp; try with_reducible rfl)
            try simp only [Act.put, List.setIfInBounds_toArray, List.set_cons_zero, List.set_cons_succ]
            refine wpAnyG_two 4 16 (o := ?lo1) (u := ?lu1) (by kernel_rfl) ?la1 ?lb1 ?lc1 ?ld1 ?le1 ?lf1
            case la1 => (simp only [List.getElem?_toArray, List.getElem?_cons_succ, List.getElem?_cons_zero]; rfl)
            case lb1 => (simp only [List.getElem?_toArray, List.getElem?_cons_succ, List.getElem?_cons_zero]; rfl)
            case lc1 => rfl
            case ld1 => rfl
            case le1 =>
              intro K hK
              go_simp
              refine hK.out _ _ (fun _ => trivial) (fun _ => ?_)
              have H5 := Lib.hid (H5.out.allocg [.int .u8 (c.toNat : Int)] 5 (wr.heap.size) (by simp))
              clear hK K
              try simp only [Act.put, List.setIfInBounds_toArray, List.set_cons_zero, List.set_cons_succ]
              refine wpAnyG_two 5 16 (o := ?lo2) (u := ?lu2) (by kernel_rfl) ?la2 ?lb2 ?lc2 ?ld2 ?le2 ?lf2
              case la2 => (simp only [List.getElem?_toArray, List.getElem?_cons_succ, List.getElem?_cons_zero]; rfl)
              case lb2 => (simp only [List.getElem?_toArray, List.getElem?_cons_succ, List.getElem?_cons_zero]; rfl)
              case lc2 => rfl
              case ld2 => rfl
              case le2 =>
                intro K hK
                refine oper_conv (v := .string ⟨#[c]⟩) (conv1 c (H5.out.at 0 rfl)) ?_
                refine hK.out _ _ (fun _ => trivial) (fun _ => ?_)
                clear hK K
                try simp only [Act.put, List.setIfInBounds_toArray, List.set_cons_zero, List.set_cons_succ]
                refine wpAnyG_take 6 (oi := ?o18) ?v18 ?hi18 (by kernel_rfl) (by kernel_rfl) (by decide) (by kernel_rfl) (by kernel_rfl) ?hq18 ?hg18 ?hy18 (by assumption) ?hk18
                case hi18 => (simp only [List.getElem?_toArray, List.getElem?_cons_succ, List.getElem?_cons_zero]; rfl)
                case hq18 => exact fun _ _ _ h => h
                case hg18 => rfl
                case hy18 => (intro X hX; go_simp; try with_reducible rfl)
                try simp only [Act.put, List.setIfInBounds_toArray, List.set_cons_zero, List.set_cons_succ]
                refine wpAnyG_take 11 (oi := ?o19) ?v19 ?hi19 (by kernel_rfl) (by kernel_rfl) (by decide) (by kernel_rfl) (by kernel_rfl) ?hq19 ?hg19 ?hy19 (by assumption) ?hk19
                case hi19 => (simp only [List.getElem?_toArray, List.getElem?_cons_succ, List.getElem?_cons_zero]; rfl)
                case hq19 => exact fun _ _ _ h => h
                case hg19 => rfl
                case hy19 => (intro X hX; go_simp; try with_reducible rfl)
                try simp only [Act.put, List.setIfInBounds_toArray, List.set_cons_zero, List.set_cons_succ]
                refine wpAnyG_two 12 16 (o := ?lo3) (u := ?lu3) (by kernel_rfl) ?la3 ?lb3 ?lc3 ?ld3 ?le3 ?lf3
                case la3 => (simp only [List.getElem?_toArray, List.getElem?_cons_succ, List.getElem?_cons_zero]; rfl)
                case lb3 => (simp only [List.getElem?_toArray, List.getElem?_cons_succ, List.getElem?_cons_zero]; rfl)
                case lc3 => rfl
                case ld3 => rfl
                case le3 =>
                  intro K hK
                  go_simp
                  refine (HRd.out _).mono ?_
                  rintro e w6 ⟨rfl, hb6⟩
                  refine hK.out _ _ (fun _ => trivial) (fun _ => ?_)
                  have H5 := Lib.hid (H5.out.ext hb6)
                  clear hK K hb6
                  try simp only [Act.put, List.setIfInBounds_toArray, List.set_cons_zero, List.set_cons_succ]
                  refine wpAnyG_take 13 (oi := ?o21) ?v21 ?hi21 (by kernel_rfl) (by kernel_rfl) (by decide) (by kernel_rfl) (by kernel_rfl) ?hq21 ?hg21 ?hy21 (by assumption) ?hk21
                  case hi21 => (simp only [List.getElem?_toArray, List.getElem?_cons_succ, List.getElem?_cons_zero]; rfl)
                  case hq21 => exact fun _ _ _ h => h
                  case hg21 => rfl
                  case hy21 => (intro X hX; go_simp; try with_reducible rfl)
                  try simp only [Act.put, List.setIfInBounds_toArray, List.set_cons_zero, List.set_cons_succ]
                  refine wpAnyG_take 14 (oi := ?o22) ?v22 ?hi22 (by kernel_rfl) (by kernel_rfl) (by decide) (by kernel_rfl) (by kernel_rfl) ?hq22 ?hg22 ?hy22 (by assumption) ?hk22
                  case hi22 => (simp only [List.getElem?_toArray, List.getElem?_cons_succ, List.getElem?_cons_zero]; rfl)
                  case hq22 => exact fun _ _ _ h => h
                  case hg22 => rfl
                  case hy22 => (intro X hX; go_simp; try with_reducible rfl)
                  try simp only [Act.put, List.setIfInBounds_toArray, List.set_cons_zero, List.set_cons_succ]
                  refine wpAnyG_take 15 (oi := ?o23) ?v23 ?hi23 (by kernel_rfl) (by kernel_rfl) (by decide) (by kernel_rfl) (by kernel_rfl) ?hq23 ?hg23 ?hy23 (by assumption) ?hk23
                  case hi23 => (simp only [List.getElem?_toArray, List.getElem?_cons_succ, List.getElem?_cons_zero]; rfl)
                  case hq23 => exact fun _ _ _ h => h
                  case hg23 => rfl
                  case hy23 => (intro X hX; go_simp; try with_reducible rfl)
                  try simp only [Act.put, List.setIfInBounds_toArray, List.set_cons_zero, List.set_cons_succ]
                  refine wpAnyG_one 16 (o := ?o24) (by kernel_rfl) ?hi24 ?hg24 ?hk24
                  case hi24 => (simp only [List.getElem?_toArray, List.getElem?_cons_succ, List.getElem?_cons_zero]; rfl)
                  case hg24 => rfl
                  intro K hK
                  go_simp
                  refine hK.out _ _ (fun _ => trivial) (fun _ => ?_)
                  have H5 := Lib.hid (H5.out.allocg zLac 56 (w6.heap.size) (by simp))
                  clear hK K
                  try simp only [Act.put, List.setIfInBounds_toArray, List.set_cons_zero, List.set_cons_succ]
                  refine wpAnyG_one 17 (o := ?o25) (by kernel_rfl) ?hi25 ?hg25 ?hk25
                  case hi25 => (simp only [List.getElem?_toArray, List.getElem?_cons_succ, List.getElem?_cons_zero]; rfl)
                  case hg25 => rfl
                  intro K hK
                  refine oper_store_blk (ty := 56) (o := 0) (t := 56) zLac l.vals (by rfl) (by rfl) (by exact H5.out.at 0 rfl) (by exact Nat.le_refl _) info56 (Lac.one _) ?_
                  intro W9 hB9 ho9
                  refine hK.out _ _ (fun _ => trivial) (fun _ => ?_)
                  have H6 := Lib.hid ((H5.out.pull 0 rfl).sets (L' := l.vals) hB9 ho9)
                  clear hK K hB9 ho9
                  try simp only [Act.put, List.setIfInBounds_toArray, List.set_cons_zero, List.set_cons_succ]
                  refine wpAnyG_one 18 (o := ?o26) (by kernel_rfl) ?hi26 ?hg26 ?hk26
                  case hi26 => (simp only [List.getElem?_toArray, List.getElem?_cons_succ, List.getElem?_cons_zero]; rfl)
                  case hg26 => rfl
                  intro K hK
                  go_simp
                  refine hK.out _ _ (fun h => absurd rfl h) (fun _ => ?_)
                  refine wpAnyG_done (by kernel_rfl) ?_ _
                  clear hK K H5
                  try simp only [Act.put, List.setIfInBounds_toArray, List.set_cons_zero, List.set_cons_succ]
                  go_wp2_with (first
                    | (with_reducible refine wpList_load_rngG (ty := 56) l.vals (by with_unfolding_all rfl) (by with_unfolding_all rfl) (Blk.box (H6.out.at 0 rfl)).range Try.underlying56 (by with_unfolding_all rfl) (by with_unfolding_all exact info56) ?_)
                    | (with_reducible refine wpList_load_rngG (ty := 56) l.vals (by with_unfolding_all rfl) (by with_unfolding_all rfl) (Blk.box (H6.out.at 3 rfl)).range Try.underlying56 (by with_unfolding_all rfl) (by with_unfolding_all exact info56) ?_))
                  go_ret
                  exact ⟨rfl, H6.out.below⟩
                case lf3 =>
                  intro K hK
                  go_simp
                  refine hK.out _ _ (fun _ => trivial) (fun _ => ?_)
                  have H5 := Lib.hid (H5.out.allocg zLac 56 (wr.heap.size + 1) (by simp))
                  clear hK K
                  try simp only [Act.put, List.setIfInBounds_toArray, List.set_cons_zero, List.set_cons_succ]
                  refine wpAnyG_one 12 (o := ?o29) (by kernel_rfl) ?hi29 ?hg29 ?hk29
                  case hi29 => (simp only [List.getElem?_toArray, List.getElem?_cons_succ, List.getElem?_cons_zero]; rfl)
                  case hg29 => rfl
                  intro K hK
                  go_simp
                  refine (HRd.out _).mono ?_
                  rintro e w6 ⟨rfl, hb6⟩
                  refine hK.out _ _ (fun _ => trivial) (fun _ => ?_)
                  have H5 := Lib.hid (H5.out.ext hb6)
                  clear hK K hb6
                  try simp only [Act.put, List.setIfInBounds_toArray, List.set_cons_zero, List.set_cons_succ]
                  refine wpAnyG_take 13 (oi := ?o31) ?v31 ?hi31 (by kernel_rfl) (by kernel_rfl) (by decide) (by kernel_rfl) (by kernel_rfl) ?hq31 ?hg31 ?hy31 (by assumption) ?hk31
                  case hi31 => (simp only [List.getElem?_toArray, List.getElem?_cons_succ, List.getElem?_cons_zero]; rfl)
                  case hq31 => exact fun _ _ _ h => h
                  case hg31 => rfl
                  case hy31 => (intro X hX; go_simp; try with_reducible rfl)
                  try simp only [Act.put, List.setIfInBounds_toArray, List.set_cons_zero, List.set_cons_succ]
                  refine wpAnyG_take 14 (oi := ?o32) ?v32 ?hi32 (by kernel_rfl) (by kernel_rfl) (by decide) (by kernel_rfl) (by kernel_rfl) ?hq32 ?hg32 ?hy32 (by assumption) ?hk32
                  case hi32 => (simp only [List.getElem?_toArray, List.getElem?_cons_succ, List.getElem?_cons_zero]; rfl)
                  case hq32 => exact fun _ _ _ h => h
                  case hg32 => rfl
                  case hy32 => (intro X hX; go_simp; try with_reducible rfl)
                  try simp only [Act.put, List.setIfInBounds_toArray, List.set_cons_zero, List.set_cons_succ]
                  refine wpAnyG_take 15 (oi := ?o33) ?v33 ?hi33 (by kernel_rfl) (by kernel_rfl) (by decide) (by kernel_rfl) (by kernel_rfl) ?hq33 ?hg33 ?hy33 (by assumption) ?hk33
                  case hi33 => (simp only [List.getElem?_toArray, List.getElem?_cons_succ, List.getElem?_cons_zero]; rfl)
                  case hq33 => exact fun _ _ _ h => h
                  case hg33 => rfl
                  case hy33 => (intro X hX; go_simp; try with_reducible rfl)
                  try simp only [Act.put, List.setIfInBounds_toArray, List.set_cons_zero, List.set_cons_succ]
                  refine wpAnyG_one 17 (o := ?o34) (by kernel_rfl) ?hi34 ?hg34 ?hk34
                  case hi34 => (simp only [List.getElem?_toArray, List.getElem?_cons_succ, List.getElem?_cons_zero]; rfl)
                  case hg34 => rfl
                  intro K hK
                  refine oper_store_blk (ty := 56) (o := 0) (t := 56) zLac l.vals (by rfl) (by rfl) (by exact H5.out.at 0 rfl) (by exact Nat.le_refl _) info56 (Lac.one _) ?_
                  intro W9 hB9 ho9
                  refine hK.out _ _ (fun _ => trivial) (fun _ => ?_)
                  have H6 := Lib.hid ((H5.out.pull 0 rfl).sets (L' := l.vals) hB9 ho9)
                  clear hK K hB9 ho9
                  try simp only [Act.put, List.setIfInBounds_toArray, List.set_cons_zero, List.set_cons_succ]
                  refine wpAnyG_one 18 (o := ?o35) (by kernel_rfl) ?hi35 ?hg35 ?hk35
                  case hi35 => (simp only [List.getElem?_toArray, List.getElem?_cons_succ, List.getElem?_cons_zero]; rfl)
                  case hg35 => rfl
                  intro K hK
                  go_simp
                  refine hK.out _ _ (fun h => absurd rfl h) (fun _ => ?_)
                  refine wpAnyG_done (by kernel_rfl) ?_ _
                  clear hK K H5
                  try simp only [Act.put, List.setIfInBounds_toArray, List.set_cons_zero, List.set_cons_succ]
                  go_wp2_with (first
                    | (with_reducible refine wpList_load_rngG (ty := 56) l.vals (by with_unfolding_all rfl) (by with_unfolding_all rfl) (Blk.box (H6.out.at 0 rfl)).range Try.underlying56 (by with_unfolding_all rfl) (by with_unfolding_all exact info56) ?_)
                    | (with_reducible refine wpList_load_rngG (ty := 56) l.vals (by with_unfolding_all rfl) (by with_unfolding_all rfl) (Blk.box (H6.out.at 3 rfl)).range Try.underlying56 (by with_unfolding_all rfl) (by with_unfolding_all exact info56) ?_))
                  go_ret
                  exact ⟨rfl, H6.out.below⟩
              case lf2 =>
                intro K hK
                go_simp
                refine hK.out _ _ (fun _ => trivial) (fun _ => ?_)
                have H5 := Lib.hid (H5.out.allocg zLac 56 (wr.heap.size + 1) (by simp))
                clear hK K
                try simp only [Act.put, List.setIfInBounds_toArray, List.set_cons_zero, List.set_cons_succ]
                refine wpAnyG_one 5 (o := ?o38) (by kernel_rfl) ?hi38 ?hg38 ?hk38
                case hi38 => (simp only [List.getElem?_toArray, List.getElem?_cons_succ, List.getElem?_cons_zero]; rfl)
                case hg38 => rfl
                intro K hK
                refine oper_conv (v := .string ⟨#[c]⟩) (conv1 c (H5.out.at 1 rfl)) ?_
                refine hK.out _ _ (fun _ => trivial) (fun _ => ?_)
                clear hK K
                try simp only [Act.put, List.setIfInBounds_toArray, List.set_cons_zero, List.set_cons_succ]
                refine wpAnyG_take 6 (oi := ?o40) ?v40 ?hi40 (by kernel_rfl) (by kernel_rfl) (by decide) (by kernel_rfl) (by kernel_rfl) ?hq40 ?hg40 ?hy40 (by assumption) ?hk40
                case hi40 => (simp only [List.getElem?_toArray, List.getElem?_cons_succ, List.getElem?_cons_zero]; rfl)
                case hq40 => exact fun _ _ _ h => h
                case hg40 => rfl
                case hy40 => (intro X hX; go_simp; try with_reducible rfl)
                try simp only [Act.put, List.setIfInBounds_toArray, List.set_cons_zero, List.set_cons_succ]
                refine wpAnyG_take 11 (oi := ?o41) ?v41 ?hi41 (by kernel_rfl) (by kernel_rfl) (by decide) (by kernel_rfl) (by kernel_rfl) ?hq41 ?hg41 ?hy41 (by assumption) ?hk41
                case hi41 => (simp only [List.getElem?_toArray, List.getElem?_cons_succ, List.getElem?_cons_zero]; rfl)
                case hq41 => exact fun _ _ _ h => h
                case hg41 => rfl
                case hy41 => (intro X hX; go_simp; try with_reducible rfl)
                try simp only [Act.put, List.setIfInBounds_toArray, List.set_cons_zero, List.set_cons_succ]
                refine wpAnyG_one 12 (o := ?o42) (by kernel_rfl) ?hi42 ?hg42 ?hk42
                case hi42 => (simp only [List.getElem?_toArray, List.getElem?_cons_succ, List.getElem?_cons_zero]; rfl)
                case hg42 => rfl
                intro K hK
                go_simp
                refine (HRd.out _).mono ?_
                rintro e w6 ⟨rfl, hb6⟩
                refine hK.out _ _ (fun _ => trivial) (fun _ => ?_)
                have H5 := Lib.hid (H5.out.ext hb6)
                clear hK K hb6
                try simp only [Act.put, List.setIfInBounds_toArray, List.set_cons_zero, List.set_cons_succ]
                refine wpAnyG_take 13 (oi := ?o44) ?v44 ?hi44 (by kernel_rfl) (by kernel_rfl) (by decide) (by kernel_rfl) (by kernel_rfl) ?hq44 ?hg44 ?hy44 (by assumption) ?hk44
                case hi44 => (simp only [List.getElem?_toArray, List.getElem?_cons_succ, List.getElem?_cons_zero]; rfl)
                case hq44 => exact fun _ _ _ h => h
                case hg44 => rfl
                case hy44 => (intro X hX; go_simp; try with_reducible rfl)
                try simp only [Act.put, List.setIfInBounds_toArray, List.set_cons_zero, List.set_cons_succ]
                refine wpAnyG_take 14 (oi := ?o45) ?v45 ?hi45 (by kernel_rfl) (by kernel_rfl) (by decide) (by kernel_rfl) (by kernel_rfl) ?hq45 ?hg45 ?hy45 (by assumption) ?hk45
                case hi45 => (simp only [List.getElem?_toArray, List.getElem?_cons_succ, List.getElem?_cons_zero]; rfl)
                case hq45 => exact fun _ _ _ h => h
                case hg45 => rfl
                case hy45 => (intro X hX; go_simp; try with_reducible rfl)
                try simp only [Act.put, List.setIfInBounds_toArray, List.set_cons_zero, List.set_cons_succ]
                refine wpAnyG_take 15 (oi := ?o46) ?v46 ?hi46 (by kernel_rfl) (by kernel_rfl) (by decide) (by kernel_rfl) (by kernel_rfl) ?hq46 ?hg46 ?hy46 (by assumption) ?hk46
                case hi46 => (simp only [List.getElem?_toArray, List.getElem?_cons_succ, List.getElem?_cons_zero]; rfl)
                case hq46 => exact fun _ _ _ h => h
                case hg46 => rfl
                case hy46 => (intro X hX; go_simp; try with_reducible rfl)
                try simp only [Act.put, List.setIfInBounds_toArray, List.set_cons_zero, List.set_cons_succ]
                refine wpAnyG_one 17 (o := ?o47) (by kernel_rfl) ?hi47 ?hg47 ?hk47
                case hi47 => (simp only [List.getElem?_toArray, List.getElem?_cons_succ, List.getElem?_cons_zero]; rfl)
                case hg47 => rfl
                intro K hK
                refine oper_store_blk (ty := 56) (o := 0) (t := 56) zLac l.vals (by rfl) (by rfl) (by exact H5.out.at 0 rfl) (by exact Nat.le_refl _) info56 (Lac.one _) ?_
                intro W9 hB9 ho9
                refine hK.out _ _ (fun _ => trivial) (fun _ => ?_)
                have H6 := Lib.hid ((H5.out.pull 0 rfl).sets (L' := l.vals) hB9 ho9)
                clear hK K hB9 ho9
                try simp only [Act.put, List.setIfInBounds_toArray, List.set_cons_zero, List.set_cons_succ]
                refine wpAnyG_one 18 (o := ?o48) (by kernel_rfl) ?hi48 ?hg48 ?hk48
                case hi48 => (simp only [List.getElem?_toArray, List.getElem?_cons_succ, List.getElem?_cons_zero]; rfl)
                case hg48 => rfl
                intro K hK
                go_simp
                refine hK.out _ _ (fun h => absurd rfl h) (fun _ => ?_)
                refine wpAnyG_done (by kernel_rfl) ?_ _
                clear hK K H5
                try simp only [Act.put, List.setIfInBounds_toArray, List.set_cons_zero, List.set_cons_succ]
                go_wp2_with (first
                  | (with_reducible refine wpList_load_rngG (ty := 56) l.vals (by with_unfolding_all rfl) (by with_unfolding_all rfl) (Blk.box (H6.out.at 0 rfl)).range Try.underlying56 (by with_unfolding_all rfl) (by with_unfolding_all exact info56) ?_)
                  | (with_reducible refine wpList_load_rngG (ty := 56) l.vals (by with_unfolding_all rfl) (by with_unfolding_all rfl) (Blk.box (H6.out.at 3 rfl)).range Try.underlying56 (by with_unfolding_all rfl) (by with_unfolding_all exact info56) ?_))
                go_ret
                exact ⟨rfl, H6.out.below⟩
            case lf1 =>
              intro K hK
              go_simp
              refine hK.out _ _ (fun _ => trivial) (fun _ => ?_)
              have H5 := Lib.hid (H5.out.allocg zLac 56 (wr.heap.size) (by simp))
              clear hK K
              try simp only [Act.put, List.setIfInBounds_toArray, List.set_cons_zero, List.set_cons_succ]
              refine wpAnyG_one 4 (o := ?o51) (by kernel_rfl) ?hi51 ?hg51 ?hk51
              case hi51 => (simp only [List.getElem?_toArray, List.getElem?_cons_succ, List.getElem?_cons_zero]; rfl)
              case hg51 => rfl
              intro K hK
              go_simp
              refine hK.out _ _ (fun _ => trivial) (fun _ => ?_)
              have H5 := Lib.hid (H5.out.allocg [.int .u8 (c.toNat : Int)] 5 (wr.heap.size + 1) (by simp))
              clear hK K
              try simp only [Act.put, List.setIfInBounds_toArray, List.set_cons_zero, List.set_cons_succ]
              refine wpAnyG_one 5 (o := ?o52) (by kernel_rfl) ?hi52 ?hg52 ?hk52
              case hi52 => (simp only [List.getElem?_toArray, List.getElem?_cons_succ, List.getElem?_cons_zero]; rfl)
              case hg52 => rfl
              intro K hK
              refine oper_conv (v := .string ⟨#[c]⟩) (conv1 c (H5.out.at 0 rfl)) ?_
              refine hK.out _ _ (fun _ => trivial) (fun _ => ?_)
              clear hK K
              try simp only [Act.put, List.setIfInBounds_toArray, List.set_cons_zero, List.set_cons_succ]
              refine wpAnyG_take 6 (oi := ?o54) ?v54 ?hi54 (by kernel_rfl) (by kernel_rfl) (by decide) (by kernel_rfl) (by kernel_rfl) ?hq54 ?hg54 ?hy54 (by assumption) ?hk54
              case hi54 => (simp only [List.getElem?_toArray, List.getElem?_cons_succ, List.getElem?_cons_zero]; rfl)
              case hq54 => exact fun _ _ _ h => h
              case hg54 => rfl
              case hy54 => (intro X hX; go_simp; try with_reducible rfl)
              try simp only [Act.put, List.setIfInBounds_toArray, List.set_cons_zero, List.set_cons_succ]
              refine wpAnyG_take 11 (oi := ?o55) ?v55 ?hi55 (by kernel_rfl) (by kernel_rfl) (by decide) (by kernel_rfl) (by kernel_rfl) ?hq55 ?hg55 ?hy55 (by assumption) ?hk55
              case hi55 => (simp only [List.getElem?_toArray, List.getElem?_cons_succ, List.getElem?_cons_zero]; rfl)
              case hq55 => exact fun _ _ _ h => h
              case hg55 => rfl
              case hy55 => (intro X hX; go_simp; try with_reducible rfl)
              try simp only [Act.put, List.setIfInBounds_toArray, List.set_cons_zero, List.set_cons_succ]
              refine wpAnyG_one 12 (o := ?o56) (by kernel_rfl) ?hi56 ?hg56 ?hk56
              case hi56 => (simp only [List.getElem?_toArray, List.getElem?_cons_succ, List.getElem?_cons_zero]; rfl)
              case hg56 => rfl
              intro K hK
              go_simp
              refine (HRd.out _).mono ?_
              rintro e w6 ⟨rfl, hb6⟩
              refine hK.out _ _ (fun _ => trivial) (fun _ => ?_)
              have H5 := Lib.hid (H5.out.ext hb6)
              clear hK K hb6
              try simp only [Act.put, List.setIfInBounds_toArray, List.set_cons_zero, List.set_cons_succ]
              refine wpAnyG_take 13 (oi := ?o58) ?v58 ?hi58 (by kernel_rfl) (by kernel_rfl) (by decide) (by kernel_rfl) (by kernel_rfl) ?hq58 ?hg58 ?hy58 (by assumption) ?hk58
              case hi58 => (simp only [List.getElem?_toArray, List.getElem?_cons_succ, List.getElem?_cons_zero]; rfl)
              case hq58 => exact fun _ _ _ h => h
              case hg58 => rfl
              case hy58 => (intro X hX; go_simp; try with_reducible rfl)
              try simp only [Act.put, List.setIfInBounds_toArray, List.set_cons_zero, List.set_cons_succ]
              refine wpAnyG_take 14 (oi := ?o59) ?v59 ?hi59 (by kernel_rfl) (by kernel_rfl) (by decide) (by kernel_rfl) (by kernel_rfl) ?hq59 ?hg59 ?hy59 (by assumption) ?hk59
              case hi59 => (simp only [List.getElem?_toArray, List.getElem?_cons_succ, List.getElem?_cons_zero]; rfl)
              case hq59 => exact fun _ _ _ h => h
              case hg59 => rfl
              case hy59 => (intro X hX; go_simp; try with_reducible rfl)
              try simp only [Act.put, List.setIfInBounds_toArray, List.set_cons_zero, List.set_cons_succ]
              refine wpAnyG_take 15 (oi := ?o60) ?v60 ?hi60 (by kernel_rfl) (by kernel_rfl) (by decide) (by kernel_rfl) (by kernel_rfl) ?hq60 ?hg60 ?hy60 (by assumption) ?hk60
              case hi60 => (simp only [List.getElem?_toArray, List.getElem?_cons_succ, List.getElem?_cons_zero]; rfl)
              case hq60 => exact fun _ _ _ h => h
              case hg60 => rfl
              case hy60 => (intro X hX; go_simp; try with_reducible rfl)
              try simp only [Act.put, List.setIfInBounds_toArray, List.set_cons_zero, List.set_cons_succ]
              refine wpAnyG_one 17 (o := ?o61) (by kernel_rfl) ?hi61 ?hg61 ?hk61
              case hi61 => (simp only [List.getElem?_toArray, List.getElem?_cons_succ, List.getElem?_cons_zero]; rfl)
              case hg61 => rfl
              intro K hK
              refine oper_store_blk (ty := 56) (o := 0) (t := 56) zLac l.vals (by rfl) (by rfl) (by exact H5.out.at 1 rfl) (by exact Nat.le_refl _) info56 (Lac.one _) ?_
              intro W9 hB9 ho9
              refine hK.out _ _ (fun _ => trivial) (fun _ => ?_)
              have H6 := Lib.hid ((H5.out.pull 1 rfl).sets (L' := l.vals) hB9 ho9)
              clear hK K hB9 ho9
              try simp only [Act.put, List.setIfInBounds_toArray, List.set_cons_zero, List.set_cons_succ]
              refine wpAnyG_one 18 (o := ?o62) (by kernel_rfl) ?hi62 ?hg62 ?hk62
              case hi62 => (simp only [List.getElem?_toArray, List.getElem?_cons_succ, List.getElem?_cons_zero]; rfl)
              case hg62 => rfl
              intro K hK
              go_simp
              refine hK.out _ _ (fun h => absurd rfl h) (fun _ => ?_)
              refine wpAnyG_done (by kernel_rfl) ?_ _
              clear hK K H5
              try simp only [Act.put, List.setIfInBounds_toArray, List.set_cons_zero, List.set_cons_succ]
              go_wp2_with (first
                | (with_reducible refine wpList_load_rngG (ty := 56) l.vals (by with_unfolding_all rfl) (by with_unfolding_all rfl) (Blk.box (H6.out.at 0 rfl)).range Try.underlying56 (by with_unfolding_all rfl) (by with_unfolding_all exact info56) ?_)
                | (with_reducible refine wpList_load_rngG (ty := 56) l.vals (by with_unfolding_all rfl) (by with_unfolding_all rfl) (Blk.box (H6.out.at 3 rfl)).range Try.underlying56 (by with_unfolding_all rfl) (by with_unfolding_all exact info56) ?_))
              go_ret
              exact ⟨rfl, H6.out.below⟩
end Go.Proofs.Ytidcjbanhdpkkaa

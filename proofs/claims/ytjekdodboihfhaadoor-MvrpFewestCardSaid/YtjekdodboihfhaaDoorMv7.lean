/- mvrp.attr: the attribute that comes next. -/
import Derived.Test.YtjekdodboihfhaaDoorMv6
import Derived.Test.YtjekdodboihfhaaDoorStE
import Derived.Test.YtjekdodboihfhaaDoorItems
import Derived.Test.YtjekdodboihfhaaDoorBuild2
import Derived.Test.YtjekdodboihfhaaDoorRet2
import Derived.Deep.LoopGhost
import Derived.Deep.CutBlock
set_option linter.all false
namespace Go.Proofs.YtjekdodboihfhaaDoor
open Go.RowKit
theorem mv_and (n : Nat) (hn : n < 65536) : bits .and .i64 (n : Int) 8191 = ((n % 8192 : Nat) : Int) := by
  have e1 : (BitVec.ofInt 64 (n : Int)).toNat = n := by rw [BitVec.ofInt_natCast, BitVec.toNat_ofNat]; exact Nat.mod_eq_of_lt (by omega)
  show IntKind.i64.wrap ((BitVec.ofInt 64 (n : Int) &&& BitVec.ofInt 64 (8191 : Int)).toNat : Int) = _
  rw [BitVec.toNat_and, e1, show (BitVec.ofInt 64 (8191 : Int)).toNat = 2 ^ 13 - 1 by decide, Nat.and_two_pow_sub_one_eq_mod, IntKind.wrap_i64]
  omega
/-- What attr leaves. -/
def AttrOut (B : Nat) (w0 : World) (A : List It) (b : Nat) (R : RS) (e : Ending) (w' : World) : Prop :=
  ∃ (a : Av) (sv : Value) (g : Nat), e = .returned (.tuple #[.agg (a.vals sv).toArray, .bool (attrM R).1.isSome]) ∧ St B w0 w' (rd b (attrM R).2 g :: ownI 3 1 sv a.evs.length (intC a.evs) :: A) ∧ ∀ x, (attrM R).1 = some x → a = x
theorem AttrOut.no {B : Nat} {w0 : World} {A : List It} {b : Nat} {R R' : RS} {g : Nat} {w' : World} (h : attrM R = (none, R')) (H : St B w0 w' (rd b R' g :: A)) : AttrOut B w0 A b R (.returned (.tuple #[.agg zAv.toArray, .bool false])) w' := by
  refine ⟨⟨false, 0, []⟩, .slice none 0 0, g, by rw [h]; rfl, ?_, fun x hx => by rw [h] at hx; cases hx⟩
  rw [h]
  exact (H.own0 3 1).swap
theorem zAv_one : ∀ v ∈ zAv, v.oneCell' = true := fun v hv => by
  rcases List.mem_cons.1 hv with rfl | hv
  · rfl
  · rcases List.mem_cons.1 hv with rfl | hv
    · rfl
    · rw [List.mem_singleton.1 hv]; rfl
theorem elemEv : ElemOk Tryd.prog 36 3 1 8 := by
  have h : (Tryd.prog.info? 3).map (fun i => (i.zero, i.size, i.bytes)) = some (some (.int .i64 0), 1, 8) := by kernel_rfl
  obtain ⟨i, hi, hz, hs, hb⟩ := info_parts h
  exact ⟨Tryd.underlying36, i, _, hi, hz, hs, hb, rfl, by decide⟩
theorem intv_flat (es : List Int) : (intv es).flatten = intC es := by
  induction es with
  | nil => rfl
  | cons a r ih =>
    show [Value.int .i64 a] ++ (intv r).flatten = Value.int .i64 a :: intC r
    rw [ih]; rfl
theorem evs_own {w : World} {t : Nat} {sv : Value} {es : List Int} (h : w.ownsRow 0 t 1 sv es.length (intC es)) : ∃ A cap, sv = .slice A es.length cap ∧ es.length ≤ cap ∧ SlRow w w.heap.size 1 A (intv es) := by
  obtain ⟨A, cap, hv, hc, hr⟩ := own_row (C := intv es) (n := es.length) (size := 1) (by rw [intv_flat]; exact h) (fun c hc => by obtain ⟨x, _, rfl⟩ := List.mem_map.1 hc; rfl) (intv_len es)
  refine ⟨A, cap, hv, hc, fun hn => ?_⟩
  obtain ⟨g, rfl, _, hg, hk⟩ := hr (by rwa [intv_len] at hn)
  exact ⟨g, 0, rfl, hg, fun k hk' => by rw [Nat.zero_add]; exact hk k hk'⟩
def dig (c : Nat) : Nat → Nat
  | 0 => c / 36
  | 1 => c / 6 % 6
  | _ => c % 6
/-- After i of the three events. -/
def stp (n k c pl : Nat) (x : List Int × RS) : Nat → List Int × RS
  | 0 => x
  | i + 1 => stepE n k pl (stp n k c pl x i) i (dig c i)
theorem grp_stp (n k : Nat) (R : RS) (acc : List Int) : grpM n k R acc = stp n k (byteM R).1 R.place (acc, (byteM R).2) 3 := rfl
theorem stepE_len {n k pl : Nat} (x : List Int × RS) (i e : Nat) : (stepE n k pl x i e).1.length ≤ x.1.length + 1 := by
  unfold stepE
  split
  · simp
  · split <;> simp
theorem stp_len (n k c pl : Nat) (x : List Int × RS) : ∀ i, (stp n k c pl x i).1.length ≤ x.1.length + i
  | 0 => Nat.le_refl _
  | i + 1 => Nat.le_trans (stepE_len _ i _) (by have := stp_len n k c pl x i; omega)
theorem evM_stop {f n k : Nat} {R : RS} {acc : List Int} (h : ¬ (k < n ∧ R.err = none)) : evM f n k R acc = (acc, R) := by
  cases f with
  | zero => rfl
  | succ f => unfold evM; rw [if_neg h]
theorem evM_go {f n k : Nat} {R : RS} {acc : List Int} (h : k < n) (he : R.err = none) : evM (f + 1) n k R acc = evM f n (k + 3) (grpM n k R acc).2 (grpM n k R acc).1 := by
  conv => lhs; unfold evM
  rw [if_pos ⟨h, he⟩]
set_option maxRecDepth 100000 in
set_option maxHeartbeats 4000000 in
theorem attr_any {B : Nat} {w0 w : World} {A : List It} {b g : Nat} {R : RS} (H : St B w0 w (rd b R g :: A)) :
    Calls Tryd.prog 29 #[.pointer (some ⟨b, 0, none⟩)] w (AttrOut B w0 A b R) := by
  have H1 := Lib.hid (H.alloc zAv 38).swap
  clear H
  go_enter Tryd.func29, Tryd.ntmps29
  go_upto_region 1 with (fail)
  unfold zAv at H1
  generalize World.alloc _ _ = w1 at *
  have H1 : Hid (St B w0 w1 (rd b R g :: bk w.heap.size 38 zAv :: A)) := H1
  generalize w.heap.size = P0 at *
  go_wp2_with fail
  refine (at_st H1.out).mono ?_
  rintro e w2 ⟨rfl, h2⟩
  have H2 := Lib.hid h2
  clear h2 H1
  go_wp2_with fail
  refine (num_e H2.out 2 (by decide) (by decide)).mono ?_
  rintro e w3 ⟨n3, R3, e3, l3, rfl, g3, h3⟩
  have E3 := Lib.hid e3
  have H3 := Lib.hid h3
  clear e3 h3 H2
  go_upto_region 3 with (fail)
  obtain ⟨cond, hcd⟩ : ∃ c, decide (R3.err ≠ none ∨ n3 = 0) = c := ⟨_, rfl⟩
  have Hcd := Lib.hid hcd
  clear hcd
  go_cut [23] (fun c wx => c = .bool cond ∧ wx = w3)
  case first =>
    cases he : R3.err with
    | some x =>
      obtain rfl : cond = true := by rw [← Hcd.out, he]; simp
      have He := Lib.hid (errV_some he g3)
      clear he
      go_wp2_with (first
        | ((with_reducible refine (err_st H3.out).mono ?_)
           rintro e w6 ⟨rfl, rfl⟩
           rw [He.out]))
      go_meet
      exact ⟨rfl, rfl⟩
    | none =>
      have He := Lib.hid (errV_none he g3)
      by_cases h1 : n3 = 0
      · obtain rfl : cond = true := by rw [← Hcd.out, h1]; simp
        subst h1
        clear he
        go_wp2_with (first
          | ((with_reducible refine (err_st H3.out).mono ?_)
             rintro e w6 ⟨rfl, rfl⟩
             rw [He.out]))
        go_meet
        exact ⟨rfl, rfl⟩
      · obtain rfl : cond = false := by rw [← Hcd.out, he]; simp [h1]
        have hb1 : ((n3 : Int) == 0) = false := by rw [beq_eq_false_iff_ne]; omega
        clear he h1
        go_wp2_with (first
          | ((with_reducible refine (err_st H3.out).mono ?_)
             rintro e w6 ⟨rfl, rfl⟩
             rw [He.out]))
        go_meet
        exact ⟨rfl, rfl⟩
  case rest =>
  obtain ⟨rfl, hw⟩ := hcut
  have hw := hw.symm
  subst hw
  cases cond
  case true =>
    have hno : attrM R = (none, R3) := by
      have h := of_decide_eq_true Hcd.out
      unfold attrM
      rw [E3.out]
      exact if_pos h
    have Hno := Lib.hid hno
    clear hno
    go_wp2_with (first
      | (with_reducible refine wpList_store_blk (ty := 38) (o := 0) _ zAv (by with_unfolding_all rfl) (by with_unfolding_all rfl) (H3.out.at 1 rfl) (by with_unfolding_all exact Nat.le_refl _) (by with_unfolding_all exact info38) zAv_one (fun W4 hBW4 hoW4 => ?_)))
    refine ret_cell2 (cs := zAv) Tryd.results29 (by rfl) (by rfl) (Blk.box hBW4).range Tryd.underlying38 rfl info38 rfl (AttrOut.no Hno.out (H3.out.swap.sets (L' := zAv) hBW4 hoW4).tail)
  case false =>
  have hgo := of_decide_eq_false Hcd.out
  have Hgo := Lib.hid hgo
  have hn3 : n3 < 65536 := l3
  have hand := mv_and n3 hn3
  clear hgo Hcd
  go_upto_region 5 with (fail)
  obtain ⟨cond, hcd⟩ : ∃ c, decide (1 < n3 / 8192 ∨ 400 < n3 % 8192) = c := ⟨_, rfl⟩
  have Hcd := Lib.hid hcd
  clear hcd
  go_cut [32] (fun c wx => c = .bool cond ∧ wx = w3)
  case first =>
    by_cases h1 : 1 < n3 / 8192
    · obtain rfl : cond = true := by rw [← Hcd.out]; simp [h1]
      have h1i : (1 : Int) < (n3 : Int) / 8192 := by omega
      go_wp2_with fail
      go_meet
      exact ⟨rfl, rfl⟩
    · have h1i : ¬ (1 : Int) < (n3 : Int) / 8192 := by omega
      by_cases h2 : 400 < n3 % 8192
      · obtain rfl : cond = true := by rw [← Hcd.out]; simp [h2]
        have h2i : (400 : Int) < (n3 : Int) % 8192 := by omega
        go_wp2_with fail
        go_meet
        exact ⟨rfl, rfl⟩
      · obtain rfl : cond = false := by rw [← Hcd.out]; simp [h1, h2]
        have h2i : ¬ (400 : Int) < (n3 : Int) % 8192 := by omega
        go_wp2_with fail
        go_meet
        exact ⟨rfl, rfl⟩
  case rest =>
  obtain ⟨rfl, hw⟩ := hcut
  have hw := hw.symm
  subst hw
  cases cond
  case true =>
    have hno : attrM R = (none, failM R3 2 (R.place : Int)) := by
      have h := of_decide_eq_true Hcd.out
      have hg := Hgo.out
      unfold attrM
      rw [E3.out]
      simp only []
      rw [if_neg hg, if_pos h]
    have Hno := Lib.hid hno
    clear hno
    go_wp2_with (first
      | ((with_reducible refine (fail_st H3.out 2 _).mono ?_)
         rintro e w4 ⟨rfl, g4, h4⟩
         have H4 := Lib.hid h4
         clear h4)
      | (with_reducible refine wpList_store_blk (ty := 38) (o := 0) _ zAv (by with_unfolding_all rfl) (by with_unfolding_all rfl) (H4.out.at 1 rfl) (by with_unfolding_all exact Nat.le_refl _) (by with_unfolding_all exact info38) zAv_one (fun W5 hBW5 hoW5 => ?_)))
    refine ret_cell2 (cs := zAv) Tryd.results29 (by rfl) (by rfl) (Blk.box hBW5).range Tryd.underlying38 rfl info38 rfl (AttrOut.no Hno.out (H4.out.swap.sets (L' := zAv) hBW5 hoW5).tail)
  case false =>
  have hk := of_decide_eq_false Hcd.out
  have hq1 : ¬ 1 < n3 / 8192 := fun h => hk (.inl h)
  have hq2 : ¬ 400 < n3 % 8192 := fun h => hk (.inr h)
  have Hk := Lib.hid hk
  clear hk Hcd
  obtain ⟨al, hal⟩ : ∃ al, decide (n3 / 8192 = 1) = al := ⟨_, rfl⟩
  have hbq : ((n3 : Int) / 8192 == 1) = al := by
    rw [← hal]
    by_cases h : n3 / 8192 = 1
    · rw [decide_eq_true h, beq_iff_eq]; omega
    · rw [decide_eq_false h, beq_eq_false_iff_ne]; omega
  obtain ⟨N, hN⟩ : ∃ N, n3 % 8192 = N := ⟨_, rfl⟩
  have hmN : (n3 : Int) % 8192 = (N : Int) := by omega
  have hN4 : N ≤ 400 := by omega
  have Hal := Lib.hid hal
  have HN := Lib.hid hN
  clear hal hN hq1 hq2
  go_wp2_with fail
  refine (num_e (H3.out.alloc [.bool al, .int .i64 0, .slice none 0 0] 38).swap 2 (by decide) (by decide)).mono ?_
  rintro e w5 ⟨n5, R5, e5, l5, rfl, g5, h5⟩
  have E5 := Lib.hid e5
  have hz5 : w5.frozen? ⟨w3.heap.size, 1, none⟩ = false := (h5.pull 1 rfl).frozen 1
  have hc5 : w5.cell? ⟨w3.heap.size, 1, none⟩ = some (.int .i64 0) := (h5.pull 1 rfl).cell 1
  have H5 := Lib.hid (((h5.pull 1 rfl).set 1 (.int .i64 (n5 : Int)) (by simp)).pull 1 rfl)
  clear e5 h5 H3 hbq hand hmN
  generalize w3.heap.size = P6 at *
  go_upto_region 11 with fail
  generalize World.setCell _ _ _ = w6 at *
  have H6 : Hid (St B w0 w6 (rd b R5 g5 :: bk P6 38 [.bool al, .int .i64 (n5 : Int), .slice none 0 0] :: bk P0 38 zAv :: ownI 3 1 (.slice none 0 0) ([] : List Int).length (intC []) :: A)) := Lib.hid ((((H5.out.own0 3 1).pull 3 rfl).pull 3 rfl).pull 3 rfl)
  clear H5 hz5 hc5
  go_upto_block 0 with (fail)
  go_cut [] (fun wx => ∃ (acc : List Int) (R7 : RS) (g7 : Nat) (sv : Value), Hid (evM 134 N 0 R5 [] = (acc, R7)) ∧ Hid (acc.length ≤ 405) ∧ Hid (St B w0 wx (rd b R7 g7 :: bk P6 38 [.bool al, .int .i64 (n5 : Int), sv] :: bk P0 38 zAv :: ownI 3 1 sv acc.length (intC acc) :: A)))
  case first =>
    go_upto_region 12 with (fail)
    go_loopg [7, 8, 9, 10, 11, 12] 134 (fun gk s7 _ _ _ _ _ wr => ∃ (k : Nat) (acc : List Int) (R7 : RS) (g7 : Nat) (sv : Value), s7 = .int .i64 (k : Int) ∧ k ≤ N + 2 ∧ Hid (evM 134 N 0 R5 [] = evM gk N k R7 acc) ∧ Hid (N ≤ k + 3 * gk) ∧ Hid (acc.length ≤ k) ∧ Hid (St B w0 wr (rd b R7 g7 :: bk P6 38 [.bool al, .int .i64 (n5 : Int), sv] :: bk P0 38 zAv :: ownI 3 1 sv acc.length (intC acc) :: A)))
    case atStart => exact ⟨0, [], R5, g5, .slice none 0 0, rfl, by omega, Lib.hid rfl, Lib.hid (by omega), Lib.hid (Nat.le_refl _), H6⟩
    case round =>
      obtain ⟨k, acc, R7, g7, sv, rfl, hk, HE, HG, HA, HS⟩ := hrel
      clear H6
      by_cases hkN : k < N
      · have hkI : (k : Int) < (N : Int) := by omega
        cases he : R7.err with
        | some x =>
          have He := Lib.hid (errV_some he g7)
          have hstop := evM_stop (f := gk) (n := N) (k := k) (R := R7) (acc := acc) (fun h => by rw [he] at h; cases h.2)
          have HX := Lib.hid (HE.out.trans hstop)
          clear he hstop
          go_wp2_with (first
            | ((with_reducible refine (err_st HS.out).mono ?_)
               rintro e w8 ⟨rfl, rfl⟩
               rw [He.out]))
          go_meet
          exact ⟨acc, R7, g7, sv, HX, Lib.hid (by have := HA.out; omega), HS⟩
        | none =>
          obtain ⟨f, rfl⟩ : ∃ f, gk = f + 1 := ⟨gk - 1, by have := HG.out; omega⟩
          have He := Lib.hid (errV_none he g7)
          have hgoE := HE.out.trans (evM_go (f := f) (acc := acc) hkN he)
          have HgoE := Lib.hid hgoE
          clear he hgoE
          go_wp2_with (first
            | ((with_reducible refine (err_st HS.out).mono ?_)
               rintro e w8 ⟨rfl, rfl⟩
               rw [He.out]))
          refine (at_st HS.out).mono ?_
          rintro e w8 ⟨rfl, h8⟩
          have H8 := Lib.hid h8
          clear h8 HS He
          go_wp2_with fail
          refine (num_e H8.out 1 (by decide) (by decide)).mono ?_
          rintro e w9 ⟨n9, R9, e9, l9, rfl, g9, h9⟩
          have E9 := Lib.hid e9
          have H9 := Lib.hid h9
          clear e9 h9 H8
          go_upto_if 61 with (fail)
          go_cut [] (fun wx => RdTo B w0 b (if 215 < n9 then failM R9 2 (R7.place : Int) else R9) (bk P6 38 [.bool al, .int .i64 (n5 : Int), sv] :: bk P0 38 zAv :: ownI 3 1 sv acc.length (intC acc) :: A) wx)
          case first =>
            by_cases h215 : 215 < n9
            · have h2i : (215 : Int) < (n9 : Int) := by omega
              go_wp2_with (first
                | ((with_reducible refine (fail_st H9.out 2 _).mono ?_)
                   rintro e w10 ⟨rfl, h10⟩
                   have H10 := Lib.hid h10
                   clear h10))
              go_meet
              rw [if_pos h215]
              exact H10.out
            · have h2i : ¬ (215 : Int) < (n9 : Int) := by omega
              go_wp2_with fail
              go_meet
              rw [if_neg h215]
              exact ⟨g9, H9.out⟩
          case rest =>
          have hbyte : byteM R7 = (n9, if 215 < n9 then failM R9 2 (R7.place : Int) else R9) := by
            unfold byteM
            rw [E9.out]
          obtain ⟨R10, hR10⟩ : ∃ R', (if 215 < n9 then failM R9 2 (R7.place : Int) else R9) = R' := ⟨_, rfl⟩
          rw [hR10] at hbyte hcut
          have Hbyte := Lib.hid hbyte
          obtain ⟨g10, h10⟩ := hcut
          have H10 := Lib.hid h10
          clear hbyte hR10 h10 H9 E9
          have hn9 : n9 < 256 := l9
          have h0n : (0 : Int) ≤ (n9 : Int) := by omega
          clear l9
          obtain ⟨X, hX⟩ : ∃ X, stp N k n9 R7.place (acc, R10) = X := ⟨_, rfl⟩
          have HX0 : Hid (X 0 = (acc, R10)) := Lib.hid (by rw [← hX]; rfl)
          have HXs : Hid (∀ i, X (i + 1) = stepE N k R7.place (X i) i (dig n9 i)) := Lib.hid (fun i => by rw [← hX]; rfl)
          have HXl : Hid (∀ i, (X i).1.length ≤ acc.length + i) := Lib.hid (fun i => by rw [← hX]; exact stp_len N k n9 R7.place (acc, R10) i)
          have HgoX : Hid (evM 134 N 0 R5 [] = evM f N (k + 3) (X 3).2 (X 3).1) := Lib.hid (by rw [HgoE.out, grp_stp, Hbyte.out, ← hX])
          clear hX HgoE Hbyte
          go_upto_region 20 with (fail)
          have HT := Lib.hid (((((H10.out.alloc [.int .i64 ((n9 : Int) / 36), .int .i64 ((n9 : Int) / 6 % 6), .int .i64 ((n9 : Int) % 6)] 3).pull 4 rfl).pull 4 rfl).pull 4 rfl).pull 4 rfl)
          clear H10
          generalize wc.heap.size = T at *
          generalize World.alloc _ _ = w11 at *
          have HT : Hid (St B w0 w11 (rd b (X 0).2 g10 :: bk P6 38 [.bool al, .int .i64 (n5 : Int), sv] :: bk P0 38 zAv :: ownI 3 1 sv (X 0).1.length (intC (X 0).1) :: bk T 3 [.int .i64 ((n9 : Int) / 36), .int .i64 ((n9 : Int) / 6 % 6), .int .i64 ((n9 : Int) % 6)] :: A)) := Lib.hid (by rw [HX0.out]; exact HT.out)
          go_loopw [11, 12, 75] (fun _ _ s75 wr => ∃ (i : Nat) (g12 : Nat) (sv12 : Value), i ≤ 3 ∧ s75 = .int .i64 (i : Int) ∧ Hid (St B w0 wr (rd b (X i).2 g12 :: bk P6 38 [.bool al, .int .i64 (n5 : Int), sv12] :: bk P0 38 zAv :: ownI 3 1 sv12 (X i).1.length (intC (X i).1) :: bk T 3 [.int .i64 ((n9 : Int) / 36), .int .i64 ((n9 : Int) / 6 % 6), .int .i64 ((n9 : Int) % 6)] :: A))) (fun _ _ s75 _ => 3 - (intOf s75).toNat)
          case atStart => exact ⟨0, g10, sv, by omega, rfl, HT⟩
          case round =>
            obtain ⟨i, g12, sv12, hi, rfl, HI⟩ := hrel
            clear HT
            by_cases hi3 : i < 3
            · have hiI : (i : Int) < 3 := by omega
              have hcell : wr.cell? ⟨T, i, none⟩ = some (.int .i64 (dig n9 i : Int)) := by
                have h := (Blk.box (HI.out.at 4 rfl)).cell i
                rw [h]
                have : i = 0 ∨ i = 1 ∨ i = 2 := by omega
                rcases this with rfl | rfl | rfl <;> rfl
              have hXi := HXl.out i
              have hal := HA.out
              by_cases hkn : k + i < N
              · have hknI : (k : Int) + (i : Int) < (N : Int) := by omega
                have hXe : X (i + 1) = ((X i).1 ++ [(dig n9 i : Int)], (X i).2) := by rw [HXs.out, stepE_in hkn]
                have HXe := Lib.hid hXe
                obtain ⟨Al, cl, rfl⟩ := own_shape (HI.out.item (k := ownI 3 1 sv12 (X i).1.length (intC (X i).1)) (List.mem_of_getElem? (i := 3) rfl))
                have c2 : wr.cell? ⟨P6, 2, none⟩ = some (.slice Al (X i).1.length cl) := (Blk.box (HI.out.at 1 rfl)).cell 2
                have HOWN := Lib.hid (HI.out.pull 3 rfl)
                clear hXe
                generalize dig n9 i = d at *
                go_wp2_with (first
                  | (at_builtin; refine wpList_append_st (t := 36) (e := 3) (size := 1) (bytes := 8) (n := (X i).1.length) (m := 1) (c := 1) (intC (X i).1) [.int .i64 (d : Int)] elemEv (HOWN.out.ext ((Below.refl _ _).alloc (Nat.le_refl _) _)) (by with_unfolding_all rfl) (by with_unfolding_all rfl) (World.news_of_block (heap_alloc_new _ _)) rfl (intC_one [(d : Int)]) (by decide) (by unfold maxLen; omega) (by omega) (fun gT capT W13 H13 => ?_); have c2' : W13.cell? ⟨P6, 2, none⟩ = some (.slice Al (X i).1.length cl) := (H13.pull 2 rfl).cell 2; have z2' := (H13.pull 2 rfl).frozen 2))
                have h14 := ((((((H13.pull 2 rfl).set 2 (.slice (some ⟨gT, 0, none⟩) ((X i).1.length + 1) capT) (by simp)).pull 1 rfl).pull 3 rfl).pull 2 rfl).pull 3 rfl)
                generalize World.setCell _ _ _ = w14 at *
                have H14 : Hid (St B w0 w14 (rd b (X (i + 1)).2 g12 :: bk P6 38 [.bool al, .int .i64 (n5 : Int), .slice (some ⟨gT, 0, none⟩) ((X i).1.length + 1) capT] :: bk P0 38 zAv :: ownI 3 1 (.slice (some ⟨gT, 0, none⟩) ((X i).1.length + 1) capT) (X (i + 1)).1.length (intC (X (i + 1)).1) :: bk T 3 [.int .i64 ((n9 : Int) / 36), .int .i64 ((n9 : Int) / 6 % 6), .int .i64 ((n9 : Int) % 6)] :: A)) := Lib.hid (by
                  rw [HXe.out]
                  simp only [intC_app, List.length_append]
                  exact h14)
                clear h14 H13 c2' z2'
                go_roundw
                case rel => exact ⟨i + 1, g12, _, by omega, by go_num, H14⟩
                case measure => simp [intOf]; omega
              · have hknI : ¬ (k : Int) + (i : Int) < (N : Int) := by omega
                by_cases hd : dig n9 i = 0
                · have hXe : X (i + 1) = X i := by rw [HXs.out, hd, stepE_out hkn]
                  have HI' : Hid (St B w0 wr (rd b (X (i + 1)).2 g12 :: bk P6 38 [.bool al, .int .i64 (n5 : Int), sv12] :: bk P0 38 zAv :: ownI 3 1 sv12 (X (i + 1)).1.length (intC (X (i + 1)).1) :: bk T 3 [.int .i64 ((n9 : Int) / 36), .int .i64 ((n9 : Int) / 6 % 6), .int .i64 ((n9 : Int) % 6)] :: A)) := Lib.hid (by rw [hXe]; exact HI.out)
                  rw [hd] at hcell
                  clear hXe hd
                  go_wp2_with fail
                  go_roundw
                  case rel => exact ⟨i + 1, g12, sv12, by omega, by go_num, HI'⟩
                  case measure => simp [intOf]; omega
                · have hXe : X (i + 1) = ((X i).1, failM (X i).2 15 (R7.place : Int)) := by
                    rw [HXs.out]
                    unfold stepE
                    rw [if_neg hkn, if_pos hd]
                  have HXe := Lib.hid hXe
                  have hdI : ((dig n9 i : Int) != 0) = true := by rw [bne_iff_ne]; omega
                  clear hXe hd
                  generalize dig n9 i = d at *
                  go_wp2_with (first
                    | ((with_reducible refine (fail_st HI.out 15 _).mono ?_)
                       rintro e w13 ⟨rfl, g13, h13⟩
                       skip))
                  have HI' : Hid (St B w0 w13 (rd b (X (i + 1)).2 g13 :: bk P6 38 [.bool al, .int .i64 (n5 : Int), sv12] :: bk P0 38 zAv :: ownI 3 1 sv12 (X (i + 1)).1.length (intC (X (i + 1)).1) :: bk T 3 [.int .i64 ((n9 : Int) / 36), .int .i64 ((n9 : Int) / 6 % 6), .int .i64 ((n9 : Int) % 6)] :: A)) := Lib.hid (by rw [HXe.out]; exact h13)
                  go_roundw
                  case rel => exact ⟨i + 1, g13, sv12, by omega, by go_num, HI'⟩
                  case measure => simp [intOf]; omega
            · have hiI : ¬ (i : Int) < 3 := by omega
              obtain rfl : i = 3 := by omega
              have hX3 := HXl.out 3
              have hal := HA.out
              have hg := HG.out
              have HI' := Lib.hid (HI.out.sub (List.Sublist.cons₂ _ (List.Sublist.cons₂ _ (List.Sublist.cons₂ _ (List.Sublist.cons₂ _ (List.sublist_cons_self _ _))))))
              go_wp2_with fail
              go_roundg f
              case measure => omega
              case rel => exact ⟨k + 3, (X 3).1, (X 3).2, g12, sv12, by go_num, by omega, HgoX, Lib.hid (by omega), Lib.hid (by omega), HI'⟩
      · have hkI : ¬ (k : Int) < (N : Int) := by omega
        have hstop := evM_stop (f := gk) (n := N) (k := k) (R := R7) (acc := acc) (fun h => hkN h.1)
        have HX := Lib.hid (HE.out.trans hstop)
        clear hstop
        go_wp2_with fail
        go_meet
        exact ⟨acc, R7, g7, sv, HX, Lib.hid (by have := HA.out; omega), HS⟩
  case rest =>
  obtain ⟨acc, R7, g7, sv, HE7, Hac, H7⟩ := hcut
  clear H6
  obtain ⟨A1, cap1, hsv, hcap, hrow⟩ := evs_own (H7.out.item (k := ownI 3 1 sv acc.length (intC acc)) (List.mem_of_getElem? (i := 3) rfl))
  subst hsv
  have hac := Hac.out
  have HR : Hid (Calls Tryd.prog 13 #[.agg #[.bool al, .int .i64 (n5 : Int), .slice A1 acc.length cap1]] wc fun e w' => e = .returned (.bool (Av.okB ⟨al, (n5 : Int), acc⟩)) ∧ Below wc.heap.size wc w') := Lib.hid (mvRight_any ⟨al, (n5 : Int), acc⟩ A1 cap1 wc (by show acc.length ≤ _; omega) hcap hrow)
  have c0 : wc.cell? ⟨P6, 0, none⟩ = some (.bool al) := (Blk.box (H7.out.at 1 rfl)).cell 0
  have c1 : wc.cell? ⟨P6, 1, none⟩ = some (.int .i64 (n5 : Int)) := (Blk.box (H7.out.at 1 rfl)).cell 1
  have c2 : wc.cell? ⟨P6, 2, none⟩ = some (.slice A1 acc.length cap1) := (Blk.box (H7.out.at 1 rfl)).cell 2
  clear hrow hcap hac
  have HM : Hid (attrM R = (if R7.err ≠ none then (none, R7) else if Av.okB ⟨al, (n5 : Int), acc⟩ = true then (some ⟨al, (n5 : Int), acc⟩, R7) else (none, failM R7 2 (R.place : Int)))) := Lib.hid (by
    unfold attrM
    rw [E3.out]
    simp only []
    rw [if_neg Hgo.out, if_neg Hk.out, E5.out]
    simp only []
    rw [HN.out, HE7.out, Hal.out])
  generalize Av.okB ⟨al, (n5 : Int), acc⟩ = rt at *
  go_upto_region 27 with (fail)
  obtain ⟨cond, hcd⟩ : ∃ c, decide (R7.err = none ∧ rt = false) = c := ⟨_, rfl⟩
  have Hcd := Lib.hid hcd
  clear hcd
  go_cut [106] (fun c wx => c = .bool cond ∧ Hid (Below wc.heap.size wc wx))
  case first =>
    cases he : R7.err with
    | some x =>
      obtain rfl : cond = false := by rw [← Hcd.out, he]; simp
      have He := Lib.hid (errV_some he g7)
      clear he
      go_wp2_with (first
        | ((with_reducible refine (err_st H7.out).mono ?_)
           rintro e w8 ⟨rfl, rfl⟩
           rw [He.out]))
      go_meet
      exact ⟨rfl, Lib.hid (Below.refl _ _)⟩
    | none =>
      obtain rfl : (!rt) = cond := by rw [← Hcd.out, he]; cases rt <;> simp
      have He := Lib.hid (errV_none he g7)
      clear he
      cases rt
      · go_wp2_with (first
          | ((with_reducible refine (err_st H7.out).mono ?_)
             rintro e w8 ⟨rfl, rfl⟩
             rw [He.out])
          | ((with_reducible refine HR.out.mono ?_)
             rintro e w9 ⟨rfl, hb9⟩
             have HB9 := Lib.hid hb9))
        go_meet
        exact ⟨rfl, HB9⟩
      · go_wp2_with (first
          | ((with_reducible refine (err_st H7.out).mono ?_)
             rintro e w8 ⟨rfl, rfl⟩
             rw [He.out])
          | ((with_reducible refine HR.out.mono ?_)
             rintro e w9 ⟨rfl, hb9⟩
             have HB9 := Lib.hid hb9))
        go_meet
        exact ⟨rfl, HB9⟩
  case rest =>
  obtain ⟨rfl, HB⟩ := hcut
  have H8 := Lib.hid (H7.out.ext HB.out)
  clear HB H7 HR c0 c1 c2
  go_upto_if 106 with (fail)
  go_cut [] (fun wx => RdTo B w0 b (if cond = true then failM R7 2 (R.place : Int) else R7) (bk P6 38 [.bool al, .int .i64 (n5 : Int), .slice A1 acc.length cap1] :: bk P0 38 zAv :: ownI 3 1 (.slice A1 acc.length cap1) acc.length (intC acc) :: A) wx)
  case first =>
    cases cond
    · go_wp2_with fail
      go_meet
      exact ⟨g7, H8.out⟩
    · go_wp2_with (first
        | ((with_reducible refine (fail_st H8.out 2 _).mono ?_)
           rintro e w9 ⟨rfl, h9⟩
           have H9 := Lib.hid h9
           clear h9))
      go_meet
      exact H9.out
  case rest =>
  obtain ⟨R8, hR8⟩ : ∃ R', (if cond = true then failM R7 2 (R.place : Int) else R7) = R' := ⟨_, rfl⟩
  rw [hR8] at hcut
  have HM2 : Hid (attrM R = (if R8.err = none then some ⟨al, (n5 : Int), acc⟩ else none, R8)) := Lib.hid (by
    rw [HM.out, ← hR8]
    cases he : R7.err with
    | some x =>
      obtain rfl : cond = false := by rw [← Hcd.out, he]; simp
      simp [he]
    | none =>
      obtain rfl : (!rt) = cond := by rw [← Hcd.out, he]; cases rt <;> simp
      cases rt
      · have hne : (failM R7 2 (R.place : Int)).err ≠ none := fun h => (failM_back h).elim
        simp [hne]
      · simp [he])
  obtain ⟨g9, h9⟩ := hcut
  have H9 := Lib.hid h9
  clear h9 hR8 HM Hcd H8 HE7 E3 E5 Hgo Hk Hal HN
  go_upto_region 29 with (fail)
  cases he : R8.err with
  | some x =>
    have He := Lib.hid (errV_some he g9)
    have HM3 : Hid (attrM R = (none, R8)) := Lib.hid (by rw [HM2.out, he]; rfl)
    clear he HM2
    have hS9 : wc.rangeAt P6 0 [.bool al, .int .i64 (n5 : Int), .slice A1 acc.length cap1] := (Blk.box (H9.out.at 1 rfl)).range
    refine wp_region_last (fun X => X.rangeAt P6 0 [.bool al, .int .i64 (n5 : Int), .slice A1 acc.length cap1]) 5 (by kernel_rfl) hS9 (fun hHeld => ?_)
    refine wpAnyG_take 0 (oi := ?o19) (.agg ([.bool al, .int .i64 (n5 : Int), .slice A1 acc.length cap1]).toArray) ?hi19 (by kernel_rfl) (by kernel_rfl) (by decide) (by kernel_rfl) (by kernel_rfl) ?hq19 ?hg19 ?hy19 (by assumption) ?hk19
    case hi19 => (simp only [List.getElem?_toArray, List.getElem?_cons_succ, List.getElem?_cons_zero]; rfl)
    case hq19 => exact fun _ _ _ h => h
    case hg19 => rfl
    case hy19 => exact fun X hX => exec_load_rng (ty := 38) ([.bool al, .int .i64 (n5 : Int), .slice A1 acc.length cap1]) rfl (hX) Tryd.underlying38 rfl info38
    try simp only [Act.put, List.setIfInBounds_toArray, List.set_cons_zero, List.set_cons_succ]
    refine wpAnyG_takeG 1 (oi := ?o21) ?v21 ?hi21 (by kernel_rfl) (by kernel_rfl) (by decide) (by kernel_rfl) (by kernel_rfl) ?hq21 ?hg21 ?hy21 (by assumption) ?hk21
    case hi21 => (simp only [List.getElem?_toArray, List.getElem?_cons_succ, List.getElem?_cons_zero]; rfl)
    case hq21 => exact fun _ _ _ h => h
    case hg21 => (first | with_unfolding_all rfl | (go_simp; with_unfolding_all rfl))
    case hy21 => (intro X hX; (first | obtain ⟨hXa, hXb, hXc, hXd, hXe⟩ := hX | obtain ⟨hXa, hXb, hXc, hXd⟩ := hX | obtain ⟨hXa, hXb, hXc⟩ := hX | obtain ⟨hXa, hXb⟩ := hX | skip); go_simp; try with_reducible rfl)
    try simp only [Act.put, List.setIfInBounds_toArray, List.set_cons_zero, List.set_cons_succ]
    refine wpAnyG_one 2 (o := ?o22) (by kernel_rfl) ?hi22 ?hg22 ?hk22
    case hi22 => (simp only [List.getElem?_toArray, List.getElem?_cons_succ, List.getElem?_cons_zero]; rfl)
    case hg22 => rfl
    intro K hK
    go_simp
    refine (err_st H9.out.drew).mono ?_
    rintro e w10 ⟨rfl, rfl⟩
    rw [He.out]
    refine hK.out _ _ (fun _ => hS9) (fun _ => ?_)
    clear hK K hHeld
    have hHeld : wc.drew.rangeAt P6 0 [.bool al, .int .i64 (n5 : Int), .slice A1 acc.length cap1] := hS9
    try simp only [Act.put, List.setIfInBounds_toArray, List.set_cons_zero, List.set_cons_succ]
    refine wpAnyG_takeG 3 (oi := ?o24) ?v24 ?hi24 (by kernel_rfl) (by kernel_rfl) (by decide) (by kernel_rfl) (by kernel_rfl) ?hq24 ?hg24 ?hy24 (by assumption) ?hk24
    case hi24 => (simp only [List.getElem?_toArray, List.getElem?_cons_succ, List.getElem?_cons_zero]; rfl)
    case hq24 => exact fun _ _ _ h => h
    case hg24 => (first | with_unfolding_all rfl | (go_simp; with_unfolding_all rfl))
    case hy24 => (intro X hX; (first | obtain ⟨hXa, hXb, hXc, hXd, hXe⟩ := hX | obtain ⟨hXa, hXb, hXc, hXd⟩ := hX | obtain ⟨hXa, hXb, hXc⟩ := hX | obtain ⟨hXa, hXb⟩ := hX | skip); go_simp; try with_reducible rfl)
    try simp only [Act.put, List.setIfInBounds_toArray, List.set_cons_zero, List.set_cons_succ]
    refine wpAnyG_one 4 (o := ?o25) (by kernel_rfl) ?hi25 ?hg25 ?hk25
    case hi25 => (simp only [List.getElem?_toArray, List.getElem?_cons_succ, List.getElem?_cons_zero]; rfl)
    case hg25 => rfl
    intro K hK
    refine oper_store_blk (ty := 38) (t := 38) (b := P0) (o := 0) zAv [.bool al, .int .i64 (n5 : Int), .slice A1 acc.length cap1] (by with_unfolding_all rfl) (by with_unfolding_all rfl) (H9.out.drew.at 2 rfl) (Nat.le_refl _) info38 (Av.one ⟨al, (n5 : Int), acc⟩ _ rfl) ?_
    intro W10 hBW10 hoW10
    have H10 := Lib.hid ((H9.out.drew.pull 2 rfl).sets (L' := [.bool al, .int .i64 (n5 : Int), .slice A1 acc.length cap1]) hBW10 hoW10)
    have hS10 : W10.rangeAt P6 0 [.bool al, .int .i64 (n5 : Int), .slice A1 acc.length cap1] := (Blk.box (H10.out.at 2 rfl)).range
    refine hK.out _ _ (fun _ => hS10) (fun _ => ?_)
    clear hK K hHeld hBW10 hoW10
    have hHeld : W10.rangeAt P6 0 [.bool al, .int .i64 (n5 : Int), .slice A1 acc.length cap1] := hS10
    try simp only [Act.put, List.setIfInBounds_toArray, List.set_cons_zero, List.set_cons_succ]
    refine wpAnyG_one 5 (o := ?o26) (by kernel_rfl) ?hi26 ?hg26 ?hk26
    case hi26 => (simp only [List.getElem?_toArray, List.getElem?_cons_succ, List.getElem?_cons_zero]; rfl)
    case hg26 => rfl
    intro K hK
    go_simp
    refine hK.out _ _ (fun h => absurd rfl h) (fun _ => ?_)
    refine wpAnyG_done (by kernel_rfl) ?_ _
    clear hK K hHeld
    go_wp2_with fail
    refine ret_cell2 (cs := [.bool al, .int .i64 (n5 : Int), .slice A1 acc.length cap1]) Tryd.results29 (by rfl) (by rfl) (Blk.box H10.out.head).range Tryd.underlying38 rfl info38 rfl ?_
    refine ⟨⟨al, (n5 : Int), acc⟩, .slice A1 acc.length cap1, g9, by rw [HM3.out]; rfl, ?_, fun y hy => by rw [HM3.out] at hy; cases hy⟩
    rw [HM3.out]
    exact ((H10.out.tail.pull 1 rfl).tail)
  | none =>
    have He := Lib.hid (errV_none he g9)
    have HM3 : Hid (attrM R = (some ⟨al, (n5 : Int), acc⟩, R8)) := Lib.hid (by rw [HM2.out, he]; rfl)
    clear he HM2
    have hS9 : wc.rangeAt P6 0 [.bool al, .int .i64 (n5 : Int), .slice A1 acc.length cap1] := (Blk.box (H9.out.at 1 rfl)).range
    refine wp_region_last (fun X => X.rangeAt P6 0 [.bool al, .int .i64 (n5 : Int), .slice A1 acc.length cap1]) 5 (by kernel_rfl) hS9 (fun hHeld => ?_)
    refine wpAnyG_take 0 (oi := ?o27) (.agg ([.bool al, .int .i64 (n5 : Int), .slice A1 acc.length cap1]).toArray) ?hi27 (by kernel_rfl) (by kernel_rfl) (by decide) (by kernel_rfl) (by kernel_rfl) ?hq27 ?hg27 ?hy27 (by assumption) ?hk27
    case hi27 => (simp only [List.getElem?_toArray, List.getElem?_cons_succ, List.getElem?_cons_zero]; rfl)
    case hq27 => exact fun _ _ _ h => h
    case hg27 => rfl
    case hy27 => exact fun X hX => exec_load_rng (ty := 38) ([.bool al, .int .i64 (n5 : Int), .slice A1 acc.length cap1]) rfl (hX) Tryd.underlying38 rfl info38
    try simp only [Act.put, List.setIfInBounds_toArray, List.set_cons_zero, List.set_cons_succ]
    refine wpAnyG_takeG 1 (oi := ?o29) ?v29 ?hi29 (by kernel_rfl) (by kernel_rfl) (by decide) (by kernel_rfl) (by kernel_rfl) ?hq29 ?hg29 ?hy29 (by assumption) ?hk29
    case hi29 => (simp only [List.getElem?_toArray, List.getElem?_cons_succ, List.getElem?_cons_zero]; rfl)
    case hq29 => exact fun _ _ _ h => h
    case hg29 => (first | with_unfolding_all rfl | (go_simp; with_unfolding_all rfl))
    case hy29 => (intro X hX; (first | obtain ⟨hXa, hXb, hXc, hXd, hXe⟩ := hX | obtain ⟨hXa, hXb, hXc, hXd⟩ := hX | obtain ⟨hXa, hXb, hXc⟩ := hX | obtain ⟨hXa, hXb⟩ := hX | skip); go_simp; try with_reducible rfl)
    try simp only [Act.put, List.setIfInBounds_toArray, List.set_cons_zero, List.set_cons_succ]
    refine wpAnyG_one 2 (o := ?o30) (by kernel_rfl) ?hi30 ?hg30 ?hk30
    case hi30 => (simp only [List.getElem?_toArray, List.getElem?_cons_succ, List.getElem?_cons_zero]; rfl)
    case hg30 => rfl
    intro K hK
    go_simp
    refine (err_st H9.out.drew).mono ?_
    rintro e w10 ⟨rfl, rfl⟩
    rw [He.out]
    refine hK.out _ _ (fun _ => hS9) (fun _ => ?_)
    clear hK K hHeld
    have hHeld : wc.drew.rangeAt P6 0 [.bool al, .int .i64 (n5 : Int), .slice A1 acc.length cap1] := hS9
    try simp only [Act.put, List.setIfInBounds_toArray, List.set_cons_zero, List.set_cons_succ]
    refine wpAnyG_takeG 3 (oi := ?o32) ?v32 ?hi32 (by kernel_rfl) (by kernel_rfl) (by decide) (by kernel_rfl) (by kernel_rfl) ?hq32 ?hg32 ?hy32 (by assumption) ?hk32
    case hi32 => (simp only [List.getElem?_toArray, List.getElem?_cons_succ, List.getElem?_cons_zero]; rfl)
    case hq32 => exact fun _ _ _ h => h
    case hg32 => (first | with_unfolding_all rfl | (go_simp; with_unfolding_all rfl))
    case hy32 => (intro X hX; (first | obtain ⟨hXa, hXb, hXc, hXd, hXe⟩ := hX | obtain ⟨hXa, hXb, hXc, hXd⟩ := hX | obtain ⟨hXa, hXb, hXc⟩ := hX | obtain ⟨hXa, hXb⟩ := hX | skip); go_simp; try with_reducible rfl)
    try simp only [Act.put, List.setIfInBounds_toArray, List.set_cons_zero, List.set_cons_succ]
    refine wpAnyG_one 4 (o := ?o33) (by kernel_rfl) ?hi33 ?hg33 ?hk33
    case hi33 => (simp only [List.getElem?_toArray, List.getElem?_cons_succ, List.getElem?_cons_zero]; rfl)
    case hg33 => rfl
    intro K hK
    refine oper_store_blk (ty := 38) (t := 38) (b := P0) (o := 0) zAv [.bool al, .int .i64 (n5 : Int), .slice A1 acc.length cap1] (by with_unfolding_all rfl) (by with_unfolding_all rfl) (H9.out.drew.at 2 rfl) (Nat.le_refl _) info38 (Av.one ⟨al, (n5 : Int), acc⟩ _ rfl) ?_
    intro W10 hBW10 hoW10
    have H10 := Lib.hid ((H9.out.drew.pull 2 rfl).sets (L' := [.bool al, .int .i64 (n5 : Int), .slice A1 acc.length cap1]) hBW10 hoW10)
    have hS10 : W10.rangeAt P6 0 [.bool al, .int .i64 (n5 : Int), .slice A1 acc.length cap1] := (Blk.box (H10.out.at 2 rfl)).range
    refine hK.out _ _ (fun _ => hS10) (fun _ => ?_)
    clear hK K hHeld hBW10 hoW10
    have hHeld : W10.rangeAt P6 0 [.bool al, .int .i64 (n5 : Int), .slice A1 acc.length cap1] := hS10
    try simp only [Act.put, List.setIfInBounds_toArray, List.set_cons_zero, List.set_cons_succ]
    refine wpAnyG_one 5 (o := ?o34) (by kernel_rfl) ?hi34 ?hg34 ?hk34
    case hi34 => (simp only [List.getElem?_toArray, List.getElem?_cons_succ, List.getElem?_cons_zero]; rfl)
    case hg34 => rfl
    intro K hK
    go_simp
    refine hK.out _ _ (fun h => absurd rfl h) (fun _ => ?_)
    refine wpAnyG_done (by kernel_rfl) ?_ _
    clear hK K hHeld
    go_wp2_with fail
    refine ret_cell2 (cs := [.bool al, .int .i64 (n5 : Int), .slice A1 acc.length cap1]) Tryd.results29 (by rfl) (by rfl) (Blk.box H10.out.head).range Tryd.underlying38 rfl info38 rfl ?_
    refine ⟨⟨al, (n5 : Int), acc⟩, .slice A1 acc.length cap1, g9, by rw [HM3.out]; rfl, ?_, fun y hy => by rw [HM3.out] at hy; injection hy⟩
    rw [HM3.out]
    exact ((H10.out.tail.pull 1 rfl).tail)
end Go.Proofs.YtjekdodboihfhaaDoor

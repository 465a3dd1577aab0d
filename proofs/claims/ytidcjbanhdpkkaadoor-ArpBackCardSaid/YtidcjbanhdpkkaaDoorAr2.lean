/- arp.Read. (Printed by tools/mkar2.py.) -/
import Derived.Test.YtidcjbanhdpkkaaDoorAr1
namespace Go.Proofs.YtidcjbanhdpkkaaDoor
open Go.RowKit
def zero4 : List Value := [.int .u8 0, .int .u8 0, .int .u8 0, .int .u8 0]
section
variable {B : Nat} {w0 w : World} {A : List It} {b g : Nat} {R : RS}
theorem copy_qd (pre rest : List Value) (o : Nat) (ho : pre.length = o) (c : List UInt8) (hc : c = [] ∨ c.length = 4) :
    (pre ++ (zero4 ++ rest)).take o ++ Lib.byteCells c ++ (pre ++ (zero4 ++ rest)).drop (o + c.length) = pre ++ ((Qd.of c).vals ++ rest) := by
  subst ho
  rw [List.take_left' rfl, ← List.drop_drop, List.drop_left' rfl, List.append_assoc]
  congr 1
  rcases hc with rfl | hc
  · rfl
  · match c, hc with
    | [_, _, _, _], _ => rfl
theorem copyQd_run {t : TypeId} (pre rest : List Value) (o cap : Nat) (c : List UInt8) (h : St B w0 w (bk g t (pre ++ (zero4 ++ rest)) :: A)) (ho : pre.length = o) (hc : c = [] ∨ c.length = 4) (ty : TypeId) :
    (Builtin.copy_ #[92, 9] ty #[.slice (some ⟨g, o, none⟩) 4 cap, .string ⟨c.toArray⟩]).run Tryd.prog w = .ok (goInt c.length) (w.setRow g (pre ++ ((Qd.of c).vals ++ rest)).toArray) := by
  have := copy_run h o 4 cap c (by rcases hc with rfl | h <;> simp_all) (by subst ho; simp only [List.length_append, zero4, List.length_cons, List.length_nil]; rcases hc with rfl | h <;> simp_all <;> omega) ty
  rw [copy_qd pre rest o ho c hc] at this
  exact this
theorem St.copyQd {t : TypeId} (pre rest : List Value) (o : Nat) (c : List UInt8) (h : St B w0 w (bk g t (pre ++ (zero4 ++ rest)) :: A)) (ho : pre.length = o) (hc : c = [] ∨ c.length = 4) :
    St B w0 (w.setRow g (pre ++ ((Qd.of c).vals ++ rest)).toArray) (bk g t (pre ++ ((Qd.of c).vals ++ rest)) :: A) := by
  have := h.copyS o c (by subst ho; simp only [List.length_append, zero4, List.length_cons, List.length_nil]; rcases hc with rfl | h <;> simp_all <;> omega)
  rw [copy_qd pre rest o ho c hc] at this
  exact this
end
def arGot (s : List UInt8) (g : Nat) : Value := if (readArM s).2.1 = true then .tuple #[.agg (readArM s).1.vals.toArray, .nilIface] else .tuple #[.agg z0.vals.toArray, errV (readArM s).2.2 g]
set_option maxRecDepth 100000 in
set_option maxHeartbeats 4000000 in
theorem arRead_any (s : List UInt8) (hs : s.length ≤ 4611686018427387904) (w : World) :
    Calls Tryd.prog 19 #[.string ⟨s.toArray⟩] w fun e w' => ∃ b g, e = .returned (arGot s g) ∧ St w.heap.size w w' (rd b (readArM s).2.2 g :: []) := by
  have H1 := Lib.hid ((St.init w).alloc zAr 26)
  go_enter Tryd.func19, Tryd.ntmps19
  go_upto_region 1 with (fail)
  unfold zAr at H1
  generalize World.alloc _ _ = w1 at *
  have H1 : Hid (St w.heap.size w w1 (bk w.heap.size 26 z0.vals :: [])) := H1
  go_wp2_with fail
  refine (new_st H1.out s 0 (by simpa using hs)).mono ?_
  rintro e w2 ⟨rfl, h2⟩
  have H2 := Lib.hid h2
  clear h2 H1
  generalize hb : w1.heap.size = b at *
  clear hb
  go_wp2_with fail
  refine (bytes_e H2.out 6 (by decide)).mono ?_
  rintro e w3 ⟨n3, R3, e3, l3, rfl, g3, h3⟩
  have E3 := Lib.hid e3
  have H3 := Lib.hid h3
  clear e3 h3 H2
  go_upto_region 3 with (fail)
  obtain ⟨cond, hcd⟩ : ∃ c, decide (R3.err = none ∧ n3 ≠ headA) = c := ⟨_, rfl⟩
  have Hcd := Lib.hid hcd
  clear hcd
  go_cut [17] (fun c wx => c = .bool cond ∧ wx = w3)
  case first =>
    cases he : R3.err with
    | some x =>
      obtain rfl : cond = false := by rw [← Hcd.out, he]; simp
      have He := Lib.hid (errV_some he g3)
      clear he
      go_wp2_with (first
        | ((with_reducible refine (err_st H3.out).mono ?_)
           rintro e w6 ⟨rfl, rfl⟩
           rw [He.out]))
      go_meet
      exact ⟨rfl, rfl⟩
    | none =>
      have He := Lib.hid (errV_none he g3)
      by_cases h1 : n3 = headA
      · obtain rfl : cond = false := by rw [← Hcd.out, h1]; simp
        have hb1 : (n3 == [0, 1, 8, 0, 6, 4]) = true := by rw [h1]; rfl
        clear he h1
        go_wp2_with (first
          | ((with_reducible refine (err_st H3.out).mono ?_)
             rintro e w6 ⟨rfl, rfl⟩
             rw [He.out]))
        go_meet
        exact ⟨rfl, rfl⟩
      · obtain rfl : cond = true := by rw [← Hcd.out, he]; simp [h1]
        have hb1 : (n3 == [0, 1, 8, 0, 6, 4]) = false := by rw [beq_eq_false_iff_ne]; exact h1
        clear he h1
        go_wp2_with (first
          | ((with_reducible refine (err_st H3.out).mono ?_)
             rintro e w6 ⟨rfl, rfl⟩
             rw [He.out]))
        go_meet
        exact ⟨rfl, rfl⟩
  case rest =>
  obtain ⟨rfl, rfl⟩ := hcut
  go_upto_if 17 with (fail)
  go_cut [] (fun wx => RdTo w.heap.size w b (if cond = true then failM R3 3 0 else R3) [bk w.heap.size 26 z0.vals] wx)
  case first =>
    cases cond
    · go_wp2_with fail
      go_meet
      exact ⟨g3, H3.out⟩
    · go_wp2_with (first
        | ((with_reducible refine (fail_st H3.out 3 _).mono ?_)
           rintro e w6 ⟨rfl, h6⟩
           have H6 := Lib.hid h6
           clear h6))
      go_meet
      exact H6.out
  case rest =>
  have hR4 : (if cond = true then failM R3 3 0 else R3) = headM (newM s 0) headA := by
    have e3 : bytesM (newM s 0) headA.length = (n3, R3) := E3.out
    unfold headM
    rw [← Hcd.out, e3]
    simp only [decide_eq_true_eq]
    rfl
  rw [hR4] at hcut
  obtain ⟨R4, e4⟩ : ∃ R', headM (newM s 0) headA = R' := ⟨_, rfl⟩
  rw [e4] at hcut
  obtain ⟨g4, h4⟩ := hcut
  have E4 := Lib.hid e4
  have H4 := Lib.hid h4
  clear e4 h4 hR4 H3 E3
  generalize wc = w4 at *
  go_upto_region 6 with (fail)
  have H5 := Lib.hid (H4.out.alloc zAr 26).swap
  unfold zAr at H5
  clear H4
  generalize World.alloc _ _ = w5 at *
  generalize hP6 : w4.heap.size = P6 at *
  clear hP6
  have H5 : Hid (St w.heap.size w w5 (rd b R4 g4 :: bk P6 26 z0.vals :: bk w.heap.size 26 z0.vals :: [])) := H5
  go_wp2_with fail
  refine (num_e H5.out 2 (by decide) (by decide)).mono ?_
  rintro e w8 ⟨n8, R8, e8, l8, rfl, g8, h8⟩
  have E8 := Lib.hid e8
  have H8 := Lib.hid h8
  clear e8 h8 H5
  have c8 : w8.cell? ⟨P6, 0, none⟩ = some (.int .i64 0) := (H8.out.pull 1 rfl).cell 0
  have z8 := (H8.out.pull 1 rfl).frozen 0
  go_upto_region 7 with (fail)
  have H9 : Hid (St w.heap.size w _ (rd b R8 g8 :: bk P6 26 (Ar.vals ⟨n8, Ad.of [], Ad.of [], Qd.of [], Qd.of []⟩) :: bk w.heap.size 26 z0.vals :: [])) := Lib.hid ((H8.out.pull 1 rfl).set 0 (.int .i64 (n8 : Int)) (by rw [Ar.len]; decide)).swap
  clear c8 z8 H8
  generalize World.setCell _ _ _ = w9 at *
  obtain ⟨cond2, hcd2⟩ : ∃ c, decide (R8.err = none ∧ ¬ (n8 = 1 ∨ n8 = 2)) = c := ⟨_, rfl⟩
  have Hcd2 := Lib.hid hcd2
  clear hcd2 Hcd
  go_cut [30] (fun c wx => c = .bool cond2 ∧ Hid (St w.heap.size w wx (rd b R8 g8 :: bk P6 26 (Ar.vals ⟨n8, Ad.of [], Ad.of [], Qd.of [], Qd.of []⟩) :: bk w.heap.size 26 z0.vals :: [])))
  case first =>
    cases he : R8.err with
    | some x =>
      obtain rfl : cond2 = false := by rw [← Hcd2.out, he]; simp
      have He := Lib.hid (errV_some he g8)
      clear he
      go_wp2_with (first
        | ((with_reducible refine (err_st H9.out).mono ?_)
           rintro e w6 ⟨rfl, rfl⟩
           rw [He.out]))
      go_meet
      exact ⟨rfl, H9⟩
    | none =>
      have He := Lib.hid (errV_none he g8)
      have hk : Ar.okB ⟨n8, Ad.of [], Ad.of [], Qd.of [], Qd.of []⟩ = !cond2 := by
        rw [← Hcd2.out, he]
        unfold Ar.okB
        by_cases h1 : n8 = 1
        · simp [h1]
        · by_cases h2 : n8 = 2
          · simp [h2]
          · simp [h1, h2]; omega
      have HK := Lib.hid hk
      clear he hk
      cases cond2
      all_goals
        go_wp2_with (first
          | ((with_reducible refine (err_st H9.out).mono ?_)
             rintro e w6 ⟨rfl, rfl⟩
             rw [He.out])
          | (with_reducible refine wpList_load_rngG (ty := 26) (Ar.vals ⟨n8, Ad.of [], Ad.of [], Qd.of [], Qd.of []⟩) (by with_unfolding_all rfl) (by with_unfolding_all rfl) (Blk.box (H9.out.at 1 rfl)).range Tryd.underlying26 (by with_unfolding_all rfl) (by with_unfolding_all exact info26) ?_)
          | ((with_reducible refine (arRight_any ⟨n8, Ad.of [], Ad.of [], Qd.of [], Qd.of []⟩ _).mono ?_)
             rintro e w7 ⟨rfl, hb7⟩
             rw [HK.out]
             have H10 := Lib.hid (H9.out.ext hb7)
             clear hb7))
        go_meet
        exact ⟨rfl, H10⟩
  case rest =>
  obtain ⟨rfl, H10⟩ := hcut
  clear H9
  generalize wc = w10 at *
  go_upto_if 30 with (fail)
  go_cut [] (fun wx => RdTo w.heap.size w b (if cond2 = true then failM R8 2 6 else R8) [bk P6 26 (Ar.vals ⟨n8, Ad.of [], Ad.of [], Qd.of [], Qd.of []⟩), bk w.heap.size 26 z0.vals] wx)
  case first =>
    cases cond2
    · go_wp2_with fail
      go_meet
      exact ⟨g8, H10.out⟩
    · go_wp2_with (first
        | ((with_reducible refine (fail_st H10.out 2 _).mono ?_)
           rintro e w6 ⟨rfl, h6⟩
           have H6 := Lib.hid h6
           clear h6))
      go_meet
      exact H6.out
  case rest =>
  have hR11 : (if cond2 = true then failM R8 2 6 else R8) = if R8.err = none ∧ ¬ (n8 = 1 ∨ n8 = 2) then failM R8 2 6 else R8 := by
    rw [← Hcd2.out]; simp only [decide_eq_true_eq]
  rw [hR11] at hcut
  obtain ⟨R11, e11⟩ : ∃ R', (if R8.err = none ∧ ¬ (n8 = 1 ∨ n8 = 2) then failM R8 2 6 else R8) = R' := ⟨_, rfl⟩
  rw [e11] at hcut
  obtain ⟨g11, h11⟩ := hcut
  have E11 := Lib.hid e11
  have H11 := Lib.hid h11
  clear e11 h11 hR11 H10 Hcd2
  generalize wc = w11 at *
  go_wp2_with fail
  refine wp_region_last (fun _ => True) 4 (by kernel_rfl) trivial (fun hHeld => ?_)
  refine wpAnyG_take 0 (oi := ?o13) ?v13 ?hi13 (by kernel_rfl) (by kernel_rfl) (by decide) (by kernel_rfl) (by kernel_rfl) ?hq13 ?hg13 ?hy13 (by assumption) ?hk13
  case hi13 => (simp only [List.getElem?_toArray, List.getElem?_cons_succ, List.getElem?_cons_zero]; rfl)
  case hq13 => exact fun _ _ _ h => h
  case hg13 => rfl
  case hy13 => (intro X hX; go_simp; try with_reducible rfl)
  try simp only [Act.put, List.setIfInBounds_toArray, List.set_cons_zero, List.set_cons_succ]
  refine wpAnyG_take 1 (oi := ?o14) ?v14 ?hi14 (by kernel_rfl) (by kernel_rfl) (by decide) (by kernel_rfl) (by kernel_rfl) ?hq14 ?hg14 ?hy14 (by assumption) ?hk14
  case hi14 => (simp only [List.getElem?_toArray, List.getElem?_cons_succ, List.getElem?_cons_zero]; rfl)
  case hq14 => exact fun _ _ _ h => h
  case hg14 => rfl
  case hy14 => (intro X hX; go_simp; try with_reducible rfl)
  try simp only [Act.put, List.setIfInBounds_toArray, List.set_cons_zero, List.set_cons_succ]
  refine wpAnyG_take 2 (oi := ?o15) ?v15 ?hi15 (by kernel_rfl) (by kernel_rfl) (by decide) (by kernel_rfl) (by kernel_rfl) ?hq15 ?hg15 ?hy15 (by assumption) ?hk15
  case hi15 => (simp only [List.getElem?_toArray, List.getElem?_cons_succ, List.getElem?_cons_zero]; rfl)
  case hq15 => exact fun _ _ _ h => h
  case hg15 => rfl
  case hy15 => (intro X hX; go_simp; try with_reducible rfl)
  try simp only [Act.put, List.setIfInBounds_toArray, List.set_cons_zero, List.set_cons_succ]
  refine wpAnyG_one 3 (o := ?o16) (by kernel_rfl) ?hi16 ?hg16 ?hk16
  case hi16 => (simp only [List.getElem?_toArray, List.getElem?_cons_succ, List.getElem?_cons_zero]; rfl)
  case hg16 => rfl
  intro K hK
  go_simp
  refine (bytes_e H11.out.drew 6 (by decide)).mono ?_
  rintro e w12 ⟨n12, R12, e12, l12, rfl, g12, h12⟩
  have E12 := Lib.hid e12
  have Hx := Lib.hid h12
  refine hK.out _ _ (fun _ => trivial) (fun _ => ?_)
  clear e12 h12 H11 hK K
  try simp only [Act.put, List.setIfInBounds_toArray, List.set_cons_zero, List.set_cons_succ]
  refine wpAnyG_one 4 (o := ?o17) (by kernel_rfl) ?hi17 ?hg17 ?hk17
  case hi17 => (simp only [List.getElem?_toArray, List.getElem?_cons_succ, List.getElem?_cons_zero]; rfl)
  case hg17 => rfl
  intro K hK
  have hx' : St w.heap.size w w12 (bk P6 26 ([.int .i64 (n8 : Int)] ++ (zero6 ++ ((Ad.of []).vals ++ ((Qd.of []).vals ++ (Qd.of []).vals)))) :: rd b R12 g12 :: bk w.heap.size 26 z0.vals :: []) := Hx.out.pull 1 rfl
  refine Lib.wp_copy_run _ (.tmp 34) (.tmp 36) 92 9 rfl _ _ rfl rfl (copyAd_run ([.int .i64 (n8 : Int)]) (((Ad.of []).vals ++ ((Qd.of []).vals ++ (Qd.of []).vals))) 1 6 n12 hx' rfl l12 _) ?_
  refine hK.out _ _ (fun h => absurd rfl h) (fun _ => ?_)
  refine wpAnyG_done (by kernel_rfl) ?_ _
  have H12 : Hid (St w.heap.size w _ (rd b R12 g12 :: bk P6 26 (Ar.vals ⟨n8, Ad.of n12, Ad.of [], Qd.of [], Qd.of []⟩) :: bk w.heap.size 26 z0.vals :: [])) := Lib.hid (St.copyAd ([.int .i64 (n8 : Int)]) (((Ad.of []).vals ++ ((Qd.of []).vals ++ (Qd.of []).vals))) 1 n12 hx' rfl l12).swap
  clear hx' hK K Hx
  generalize World.setRow _ _ _ = w12 at *
  go_wp2_with fail
  refine wp_region_last (fun _ => True) 4 (by kernel_rfl) trivial (fun hHeld => ?_)
  refine wpAnyG_take 0 (oi := ?o19) ?v19 ?hi19 (by kernel_rfl) (by kernel_rfl) (by decide) (by kernel_rfl) (by kernel_rfl) ?hq19 ?hg19 ?hy19 (by assumption) ?hk19
  case hi19 => (simp only [List.getElem?_toArray, List.getElem?_cons_succ, List.getElem?_cons_zero]; rfl)
  case hq19 => exact fun _ _ _ h => h
  case hg19 => rfl
  case hy19 => (intro X hX; go_simp; try with_reducible rfl)
  try simp only [Act.put, List.setIfInBounds_toArray, List.set_cons_zero, List.set_cons_succ]
  refine wpAnyG_take 1 (oi := ?o20) ?v20 ?hi20 (by kernel_rfl) (by kernel_rfl) (by decide) (by kernel_rfl) (by kernel_rfl) ?hq20 ?hg20 ?hy20 (by assumption) ?hk20
  case hi20 => (simp only [List.getElem?_toArray, List.getElem?_cons_succ, List.getElem?_cons_zero]; rfl)
  case hq20 => exact fun _ _ _ h => h
  case hg20 => rfl
  case hy20 => (intro X hX; go_simp; try with_reducible rfl)
  try simp only [Act.put, List.setIfInBounds_toArray, List.set_cons_zero, List.set_cons_succ]
  refine wpAnyG_take 2 (oi := ?o21) ?v21 ?hi21 (by kernel_rfl) (by kernel_rfl) (by decide) (by kernel_rfl) (by kernel_rfl) ?hq21 ?hg21 ?hy21 (by assumption) ?hk21
  case hi21 => (simp only [List.getElem?_toArray, List.getElem?_cons_succ, List.getElem?_cons_zero]; rfl)
  case hq21 => exact fun _ _ _ h => h
  case hg21 => rfl
  case hy21 => (intro X hX; go_simp; try with_reducible rfl)
  try simp only [Act.put, List.setIfInBounds_toArray, List.set_cons_zero, List.set_cons_succ]
  refine wpAnyG_one 3 (o := ?o22) (by kernel_rfl) ?hi22 ?hg22 ?hk22
  case hi22 => (simp only [List.getElem?_toArray, List.getElem?_cons_succ, List.getElem?_cons_zero]; rfl)
  case hg22 => rfl
  intro K hK
  go_simp
  refine (bytes_e H12.out.drew 4 (by decide)).mono ?_
  rintro e w13 ⟨n13, R13, e13, l13, rfl, g13, h13⟩
  have E13 := Lib.hid e13
  have Hx := Lib.hid h13
  refine hK.out _ _ (fun _ => trivial) (fun _ => ?_)
  clear e13 h13 H12 hK K
  try simp only [Act.put, List.setIfInBounds_toArray, List.set_cons_zero, List.set_cons_succ]
  refine wpAnyG_one 4 (o := ?o23) (by kernel_rfl) ?hi23 ?hg23 ?hk23
  case hi23 => (simp only [List.getElem?_toArray, List.getElem?_cons_succ, List.getElem?_cons_zero]; rfl)
  case hg23 => rfl
  intro K hK
  have hx' : St w.heap.size w w13 (bk P6 26 ((.int .i64 (n8 : Int) :: ((Ad.of n12).vals ++ (Ad.of []).vals)) ++ (zero4 ++ (Qd.of []).vals)) :: rd b R13 g13 :: bk w.heap.size 26 z0.vals :: []) := Hx.out.pull 1 rfl
  refine Lib.wp_copy_run _ (.tmp 39) (.tmp 41) 92 9 rfl _ _ rfl rfl (copyQd_run ((.int .i64 (n8 : Int) :: ((Ad.of n12).vals ++ (Ad.of []).vals))) ((Qd.of []).vals) 13 4 n13 hx' rfl l13 _) ?_
  refine hK.out _ _ (fun h => absurd rfl h) (fun _ => ?_)
  refine wpAnyG_done (by kernel_rfl) ?_ _
  have H13 : Hid (St w.heap.size w _ (rd b R13 g13 :: bk P6 26 (Ar.vals ⟨n8, Ad.of n12, Ad.of [], Qd.of n13, Qd.of []⟩) :: bk w.heap.size 26 z0.vals :: [])) := Lib.hid (St.copyQd ((.int .i64 (n8 : Int) :: ((Ad.of n12).vals ++ (Ad.of []).vals))) ((Qd.of []).vals) 13 n13 hx' rfl l13).swap
  clear hx' hK K Hx
  generalize World.setRow _ _ _ = w13 at *
  go_wp2_with fail
  refine wp_region_last (fun _ => True) 4 (by kernel_rfl) trivial (fun hHeld => ?_)
  refine wpAnyG_take 0 (oi := ?o25) ?v25 ?hi25 (by kernel_rfl) (by kernel_rfl) (by decide) (by kernel_rfl) (by kernel_rfl) ?hq25 ?hg25 ?hy25 (by assumption) ?hk25
  case hi25 => (simp only [List.getElem?_toArray, List.getElem?_cons_succ, List.getElem?_cons_zero]; rfl)
  case hq25 => exact fun _ _ _ h => h
  case hg25 => rfl
  case hy25 => (intro X hX; go_simp; try with_reducible rfl)
  try simp only [Act.put, List.setIfInBounds_toArray, List.set_cons_zero, List.set_cons_succ]
  refine wpAnyG_take 1 (oi := ?o26) ?v26 ?hi26 (by kernel_rfl) (by kernel_rfl) (by decide) (by kernel_rfl) (by kernel_rfl) ?hq26 ?hg26 ?hy26 (by assumption) ?hk26
  case hi26 => (simp only [List.getElem?_toArray, List.getElem?_cons_succ, List.getElem?_cons_zero]; rfl)
  case hq26 => exact fun _ _ _ h => h
  case hg26 => rfl
  case hy26 => (intro X hX; go_simp; try with_reducible rfl)
  try simp only [Act.put, List.setIfInBounds_toArray, List.set_cons_zero, List.set_cons_succ]
  refine wpAnyG_take 2 (oi := ?o27) ?v27 ?hi27 (by kernel_rfl) (by kernel_rfl) (by decide) (by kernel_rfl) (by kernel_rfl) ?hq27 ?hg27 ?hy27 (by assumption) ?hk27
  case hi27 => (simp only [List.getElem?_toArray, List.getElem?_cons_succ, List.getElem?_cons_zero]; rfl)
  case hq27 => exact fun _ _ _ h => h
  case hg27 => rfl
  case hy27 => (intro X hX; go_simp; try with_reducible rfl)
  try simp only [Act.put, List.setIfInBounds_toArray, List.set_cons_zero, List.set_cons_succ]
  refine wpAnyG_one 3 (o := ?o28) (by kernel_rfl) ?hi28 ?hg28 ?hk28
  case hi28 => (simp only [List.getElem?_toArray, List.getElem?_cons_succ, List.getElem?_cons_zero]; rfl)
  case hg28 => rfl
  intro K hK
  go_simp
  refine (bytes_e H13.out.drew 6 (by decide)).mono ?_
  rintro e w14 ⟨n14, R14, e14, l14, rfl, g14, h14⟩
  have E14 := Lib.hid e14
  have Hx := Lib.hid h14
  refine hK.out _ _ (fun _ => trivial) (fun _ => ?_)
  clear e14 h14 H13 hK K
  try simp only [Act.put, List.setIfInBounds_toArray, List.set_cons_zero, List.set_cons_succ]
  refine wpAnyG_one 4 (o := ?o29) (by kernel_rfl) ?hi29 ?hg29 ?hk29
  case hi29 => (simp only [List.getElem?_toArray, List.getElem?_cons_succ, List.getElem?_cons_zero]; rfl)
  case hg29 => rfl
  intro K hK
  have hx' : St w.heap.size w w14 (bk P6 26 ((.int .i64 (n8 : Int) :: (Ad.of n12).vals) ++ (zero6 ++ ((Qd.of n13).vals ++ (Qd.of []).vals))) :: rd b R14 g14 :: bk w.heap.size 26 z0.vals :: []) := Hx.out.pull 1 rfl
  refine Lib.wp_copy_run _ (.tmp 44) (.tmp 46) 92 9 rfl _ _ rfl rfl (copyAd_run ((.int .i64 (n8 : Int) :: (Ad.of n12).vals)) (((Qd.of n13).vals ++ (Qd.of []).vals)) 7 6 n14 hx' rfl l14 _) ?_
  refine hK.out _ _ (fun h => absurd rfl h) (fun _ => ?_)
  refine wpAnyG_done (by kernel_rfl) ?_ _
  have H14 : Hid (St w.heap.size w _ (rd b R14 g14 :: bk P6 26 (Ar.vals ⟨n8, Ad.of n12, Ad.of n14, Qd.of n13, Qd.of []⟩) :: bk w.heap.size 26 z0.vals :: [])) := Lib.hid (St.copyAd ((.int .i64 (n8 : Int) :: (Ad.of n12).vals)) (((Qd.of n13).vals ++ (Qd.of []).vals)) 7 n14 hx' rfl l14).swap
  clear hx' hK K Hx
  generalize World.setRow _ _ _ = w14 at *
  go_wp2_with fail
  refine wp_region_last (fun _ => True) 4 (by kernel_rfl) trivial (fun hHeld => ?_)
  refine wpAnyG_take 0 (oi := ?o31) ?v31 ?hi31 (by kernel_rfl) (by kernel_rfl) (by decide) (by kernel_rfl) (by kernel_rfl) ?hq31 ?hg31 ?hy31 (by assumption) ?hk31
  case hi31 => (simp only [List.getElem?_toArray, List.getElem?_cons_succ, List.getElem?_cons_zero]; rfl)
  case hq31 => exact fun _ _ _ h => h
  case hg31 => rfl
  case hy31 => (intro X hX; go_simp; try with_reducible rfl)
  try simp only [Act.put, List.setIfInBounds_toArray, List.set_cons_zero, List.set_cons_succ]
  refine wpAnyG_take 1 (oi := ?o32) ?v32 ?hi32 (by kernel_rfl) (by kernel_rfl) (by decide) (by kernel_rfl) (by kernel_rfl) ?hq32 ?hg32 ?hy32 (by assumption) ?hk32
  case hi32 => (simp only [List.getElem?_toArray, List.getElem?_cons_succ, List.getElem?_cons_zero]; rfl)
  case hq32 => exact fun _ _ _ h => h
  case hg32 => rfl
  case hy32 => (intro X hX; go_simp; try with_reducible rfl)
  try simp only [Act.put, List.setIfInBounds_toArray, List.set_cons_zero, List.set_cons_succ]
  refine wpAnyG_take 2 (oi := ?o33) ?v33 ?hi33 (by kernel_rfl) (by kernel_rfl) (by decide) (by kernel_rfl) (by kernel_rfl) ?hq33 ?hg33 ?hy33 (by assumption) ?hk33
  case hi33 => (simp only [List.getElem?_toArray, List.getElem?_cons_succ, List.getElem?_cons_zero]; rfl)
  case hq33 => exact fun _ _ _ h => h
  case hg33 => rfl
  case hy33 => (intro X hX; go_simp; try with_reducible rfl)
  try simp only [Act.put, List.setIfInBounds_toArray, List.set_cons_zero, List.set_cons_succ]
  refine wpAnyG_one 3 (o := ?o34) (by kernel_rfl) ?hi34 ?hg34 ?hk34
  case hi34 => (simp only [List.getElem?_toArray, List.getElem?_cons_succ, List.getElem?_cons_zero]; rfl)
  case hg34 => rfl
  intro K hK
  go_simp
  refine (bytes_e H14.out.drew 4 (by decide)).mono ?_
  rintro e w15 ⟨n15, R15, e15, l15, rfl, g15, h15⟩
  have E15 := Lib.hid e15
  have Hx := Lib.hid h15
  refine hK.out _ _ (fun _ => trivial) (fun _ => ?_)
  clear e15 h15 H14 hK K
  try simp only [Act.put, List.setIfInBounds_toArray, List.set_cons_zero, List.set_cons_succ]
  refine wpAnyG_one 4 (o := ?o35) (by kernel_rfl) ?hi35 ?hg35 ?hk35
  case hi35 => (simp only [List.getElem?_toArray, List.getElem?_cons_succ, List.getElem?_cons_zero]; rfl)
  case hg35 => rfl
  intro K hK
  have hx' : St w.heap.size w w15 (bk P6 26 ((.int .i64 (n8 : Int) :: ((Ad.of n12).vals ++ ((Ad.of n14).vals ++ (Qd.of n13).vals))) ++ (zero4 ++ ([] : List Value))) :: rd b R15 g15 :: bk w.heap.size 26 z0.vals :: []) := Hx.out.pull 1 rfl
  refine Lib.wp_copy_run _ (.tmp 49) (.tmp 51) 92 9 rfl _ _ rfl rfl (copyQd_run ((.int .i64 (n8 : Int) :: ((Ad.of n12).vals ++ ((Ad.of n14).vals ++ (Qd.of n13).vals)))) (([] : List Value)) 17 4 n15 hx' rfl l15 _) ?_
  refine hK.out _ _ (fun h => absurd rfl h) (fun _ => ?_)
  refine wpAnyG_done (by kernel_rfl) ?_ _
  have H15 : Hid (St w.heap.size w _ (rd b R15 g15 :: bk P6 26 (Ar.vals ⟨n8, Ad.of n12, Ad.of n14, Qd.of n13, Qd.of n15⟩) :: bk w.heap.size 26 z0.vals :: [])) := Lib.hid (St.copyQd ((.int .i64 (n8 : Int) :: ((Ad.of n12).vals ++ ((Ad.of n14).vals ++ (Qd.of n13).vals)))) (([] : List Value)) 17 n15 hx' rfl l15).swap
  clear hx' hK K Hx
  generalize World.setRow _ _ _ = w15 at *
  go_wp2_with fail
  refine (zeros_e H15.out).mono ?_
  rintro e w17 ⟨ok, R17, e17, rfl, g17, h17⟩
  have hE : readArM s = (⟨n8, Ad.of n12, Ad.of n14, Qd.of n13, Qd.of n15⟩, ok, R17) := by
    unfold readArM
    simp only [E4.out, E8.out, E11.out, E12.out, E13.out, E14.out, E15.out, e17]
  have HE := Lib.hid hE
  have H17 := Lib.hid h17
  clear e17 h17 hE H15 E4 E8 E11 E12 E13 E14 E15
  have B17 := Lib.hid (H17.out.at 2 rfl)
  have R17' := Lib.hid (Blk.box (H17.out.at 1 rfl)).range
  cases ok
  · go_wp2_with (first
      | (with_reducible refine wpList_buildA (t := 26) [] z0.vals (by with_unfolding_all rfl) ar_zero ?_)
      | ((with_reducible refine (err_st H17.out).mono ?_)
         rintro e w18 ⟨rfl, rfl⟩)
      | (with_reducible refine wpList_store_blk (ty := 26) (o := 0) _ z0.vals (by with_unfolding_all rfl) (by with_unfolding_all rfl) B17.out (by with_unfolding_all exact Nat.le_refl _) (by with_unfolding_all exact info26) (Ar.one z0) (fun W19 hBW19 hoW19 => ?_)))
    have h19 := (H17.out.pull 2 rfl).sets (L' := z0.vals) hBW19 hoW19
    refine ret_cell2 (cs := z0.vals) Tryd.results19 (by rfl) (by rfl) (Blk.box h19.head).range Tryd.underlying26 rfl info26 rfl ⟨b, g17, ?_, ?_⟩
    · unfold arGot; rw [HE.out]; rfl
    · rw [HE.out]; exact h19.tail.swap.tail
  · go_wp2_with (first
      | (with_reducible refine wpList_load_rng (ty := 26) (Ar.vals ⟨n8, Ad.of n12, Ad.of n14, Qd.of n13, Qd.of n15⟩) (by with_unfolding_all rfl) R17'.out Tryd.underlying26 (by with_unfolding_all rfl) (by with_unfolding_all exact info26) ?_)
      | (with_reducible refine wpList_store_blk (ty := 26) (o := 0) _ (Ar.vals ⟨n8, Ad.of n12, Ad.of n14, Qd.of n13, Qd.of n15⟩) (by with_unfolding_all rfl) (by with_unfolding_all rfl) B17.out (by with_unfolding_all exact Nat.le_refl _) (by with_unfolding_all exact info26) (Ar.one _) (fun W19 hBW19 hoW19 => ?_)))
    have h19 := (H17.out.pull 2 rfl).sets (L' := Ar.vals ⟨n8, Ad.of n12, Ad.of n14, Qd.of n13, Qd.of n15⟩) hBW19 hoW19
    refine ret_cell2 (cs := Ar.vals ⟨n8, Ad.of n12, Ad.of n14, Qd.of n13, Qd.of n15⟩) Tryd.results19 (by rfl) (by rfl) (Blk.box h19.head).range Tryd.underlying26 rfl info26 rfl ⟨b, g17, ?_, ?_⟩
    · unfold arGot; rw [HE.out]; rfl
    · rw [HE.out]; exact h19.tail.swap.tail
end Go.Proofs.YtidcjbanhdpkkaaDoor

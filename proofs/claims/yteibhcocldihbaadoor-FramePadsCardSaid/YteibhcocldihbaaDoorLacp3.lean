/- lacp: head, readSide, Read. -/
import Derived.Test.YteibhcocldihbaaDoorLacp2
import Derived.Test.YteibhcocldihbaaDoorStE
import Derived.Test.YteibhcocldihbaaDoorHeld
import Derived.Lib.BufferWrite
import Derived.Lib.SlBuf
set_option linter.all false
namespace Go.Proofs.YteibhcocldihbaaDoor
open Go.RowKit
section
variable {B : Nat} {w0 w : World} {A : List It} {b g : Nat} {R : RS}
theorem ba_eq_iff (l m : List UInt8) : ((⟨l.toArray⟩ : ByteArray) = ⟨m.toArray⟩) ↔ l = m := by
  constructor
  · intro h
    have := congrArg ByteArray.data h
    simpa using this
  · rintro rfl; rfl
set_option maxHeartbeats 1000000 in
theorem head_st (H : St B w0 w (rd b R g :: A)) (want : List UInt8) (hw : want.length ≤ 100) :
    Calls Tryd.prog 48 #[.pointer (some ⟨b, 0, none⟩), .string ⟨want.toArray⟩] w fun e w' => e = .returned (.tuple #[]) ∧ RdTo B w0 b (headM R want) A w' := by
  have Hr := Lib.hid H
  have Hm : Hid (∀ got R2, bytesM R want.length = (got, R2) → headM R want = if R2.err = none ∧ got ≠ want then failM R2 3 (R.place : Int) else R2) := Lib.hid (fun got R2 h => by unfold headM; rw [h])
  clear H
  go_enter Tryd.func48, Tryd.ntmps48
  go_wp2_with fail
  refine (at_st Hr.out).mono ?_
  rintro e w1 ⟨rfl, h1⟩
  have H1 := Lib.hid h1
  clear h1 Hr
  go_wp2_with fail
  refine (bytes_st H1.out want.length (by omega)).mono ?_
  rintro e w2 ⟨rfl, g2, h2⟩
  obtain ⟨⟨got, R2⟩, hp⟩ : ∃ p, bytesM R want.length = p := ⟨_, rfl⟩
  rw [hp] at h2 ⊢
  simp only [] at h2 ⊢
  have Hf := Lib.hid (Hm.out got R2 hp)
  have H2 := Lib.hid h2
  clear h2 hp Hm H1
  go_wp2_with fail
  refine (err_st H2.out).mono ?_
  rintro e w3 ⟨rfl, rfl⟩
  cases he : R2.err with
  | some x =>
    rw [errV_some he]
    have Hf2 : Hid (headM R want = R2) := Lib.hid (by rw [Hf.out, if_neg (by rw [he]; simp)])
    clear he
    go_wp2_with fail
    go_returns
    exact ⟨rfl, g2, by rw [Hf2.out]; exact H2.out⟩
  | none =>
    rw [errV_none he]
    by_cases hg : got = want
    · have Hf2 : Hid (headM R want = R2) := Lib.hid (by rw [Hf.out, if_neg (by simp [hg])])
      subst hg
      clear he
      go_wp2_with fail
      go_returns
      exact ⟨rfl, g2, by rw [Hf2.out]; exact H2.out⟩
    · have Hf2 : Hid (headM R want = failM R2 3 (R.place : Int)) := Lib.hid (by rw [Hf.out, if_pos ⟨he, hg⟩])
      have hne : (got == want) = false := by
        rw [beq_eq_false_iff_ne]
        exact hg
      clear he
      go_wp2_with fail
      refine (fail_st H2.out 3 _).mono ?_
      rintro e w4 ⟨rfl, h4⟩
      have H4 := Lib.hid h4
      clear h4
      go_wp2_with fail
      go_returns
      exact ⟨rfl, by rw [Hf2.out]; exact H4.out⟩
theorem St.copyS {t : TypeId} {L : List Value} (h : St B w0 w (bk g t L :: A)) (o : Nat) (l : List UInt8) (ho : o + l.length ≤ L.length) :
    St B w0 (w.setRow g (L.take o ++ Lib.byteCells l ++ L.drop (o + l.length)).toArray) (bk g t (L.take o ++ Lib.byteCells l ++ L.drop (o + l.length)) :: A) := by
  have hB : w.heap[g]? = some (.cells L.toArray t (0, 0)) := h.head
  refine h.sets ?_ ⟨rfl, rfl, rfl, by simp [World.setRow], fun k hk => setRow_other w g k _ hk⟩
  show Blk _ g t _
  unfold Blk
  rw [setRow_heap w g _ _ t _ hB]
def zero6 : List Value := [.int .u8 0, .int .u8 0, .int .u8 0, .int .u8 0, .int .u8 0, .int .u8 0]
theorem copy_ad (pre rest : List Value) (o : Nat) (ho : pre.length = o) (c : List UInt8) (hc : c = [] ∨ c.length = 6) :
    (pre ++ (zero6 ++ rest)).take o ++ Lib.byteCells c ++ (pre ++ (zero6 ++ rest)).drop (o + c.length) = pre ++ ((Ad.of c).vals ++ rest) := by
  subst ho
  rw [List.take_left' rfl, ← List.drop_drop, List.drop_left' rfl, List.append_assoc]
  congr 1
  rcases hc with rfl | hc
  · rfl
  · match c, hc with
    | [_, _, _, _, _, _], _ => rfl
theorem copy_run {L : List Value} {t : TypeId} (h : St B w0 w (bk g t L :: A)) (o n cap : Nat) (l : List UInt8) (hl : l.length ≤ n) (ho : o + l.length ≤ L.length) (ty : TypeId) :
    (Builtin.copy_ #[90, 9] ty #[.slice (some ⟨g, o, none⟩) n cap, .string ⟨l.toArray⟩]).run Tryd.prog w = .ok (goInt l.length) (w.setRow g (L.take o ++ Lib.byteCells l ++ L.drop (o + l.length)).toArray) :=
  Lib.run_copy_row_string (P := Tryd.prog) w 90 9 ty 5 g o n cap ⟨l.toArray⟩ L.toArray t Tryd.underlying90 (by kernel_rfl) h.head hl (by show o + l.length ≤ _; simpa using ho)
/-- 'copy(p.Addr[:], s)', of six bytes or of none, into noughts. -/
theorem copyAd_run {t : TypeId} (pre rest : List Value) (o cap : Nat) (c : List UInt8) (h : St B w0 w (bk g t (pre ++ (zero6 ++ rest)) :: A)) (ho : pre.length = o) (hc : c = [] ∨ c.length = 6) (ty : TypeId) :
    (Builtin.copy_ #[90, 9] ty #[.slice (some ⟨g, o, none⟩) 6 cap, .string ⟨c.toArray⟩]).run Tryd.prog w = .ok (goInt c.length) (w.setRow g (pre ++ ((Ad.of c).vals ++ rest)).toArray) := by
  have := copy_run h o 6 cap c (by rcases hc with rfl | h <;> simp_all) (by subst ho; simp only [List.length_append, zero6, List.length_cons, List.length_nil]; rcases hc with rfl | h <;> simp_all <;> omega) ty
  rw [copy_ad pre rest o ho c hc] at this
  exact this
theorem St.copyAd {t : TypeId} (pre rest : List Value) (o : Nat) (c : List UInt8) (h : St B w0 w (bk g t (pre ++ (zero6 ++ rest)) :: A)) (ho : pre.length = o) (hc : c = [] ∨ c.length = 6) :
    St B w0 (w.setRow g (pre ++ ((Ad.of c).vals ++ rest)).toArray) (bk g t (pre ++ ((Ad.of c).vals ++ rest)) :: A) := by
  have := h.copyS o c (by subst ho; simp only [List.length_append, zero6, List.length_cons, List.length_nil]; rcases hc with rfl | h <;> simp_all <;> omega)
  rw [copy_ad pre rest o ho c hc] at this
  exact this
def zPty : List Value := [.int .i64 0] ++ (zero6 ++ [.int .i64 0, .int .i64 0, .int .i64 0, .int .i64 0])
set_option maxRecDepth 100000 in
set_option maxHeartbeats 2000000 in
theorem readSide_st (H : St B w0 w (rd b R g :: A)) (kind : Nat) (hk : kind = 1 ∨ kind = 2) :
    Calls Tryd.prog 106 #[.pointer (some ⟨b, 0, none⟩), .int .i64 (kind : Int)] w fun e w' => e = .returned (.agg (readSideM R kind).1.vals.toArray) ∧ RdTo B w0 b (readSideM R kind).2 A w' := by
  have H1 := Lib.hid (H.alloc [.int .i64 0, .int .u8 0, .int .u8 0, .int .u8 0, .int .u8 0, .int .u8 0, .int .u8 0, .int .i64 0, .int .i64 0, .int .i64 0, .int .i64 0] 83).swap
  clear H
  have L0 : (beBytes kind 1).length ≤ 1 := by rw [beBytes_len]; exact Nat.le_refl _
  have M0 := Lib.hid (fun W => must_ok kind 1 (by decide) (by decide) (by omega) W)
  go_enter Tryd.func106, Tryd.ntmps106
  go_upto_region 1 with (fail)
  generalize World.alloc _ _ = w1 at *
  have H1 : Hid (St B w0 w1 (rd b R g :: bk w.heap.size 83 zPty :: A)) := H1
  go_wp2_with fail
  refine (M0.out _).mono ?_
  rintro e w2 ⟨rfl, hb2⟩
  have H2 := Lib.hid (H1.out.ext hb2)
  clear hb2 H1 M0
  go_wp2_with fail
  refine (head_st H2.out (beBytes kind 1 ++ [20]) (by simp; omega)).mono ?_
  rintro e w3 ⟨rfl, g3, h3⟩
  have H3 := Lib.hid h3
  clear h3 H2
  generalize hR3 : headM R (beBytes kind 1 ++ [20]) = R3 at *
  have HR3 := Lib.hid hR3
  clear hR3
  go_upto_region 3 with (fail)
  have H4 := Lib.hid (H3.out.alloc [.int .i64 0, .int .u8 0, .int .u8 0, .int .u8 0, .int .u8 0, .int .u8 0, .int .u8 0, .int .i64 0, .int .i64 0, .int .i64 0, .int .i64 0] 83).swap
  clear H3
  generalize World.alloc _ _ = w4 at *
  generalize hP5 : w3.heap.size = P5 at *
  clear hP5
  have H4 : Hid (St B w0 w4 (rd b R3 g3 :: bk P5 83 zPty :: bk w.heap.size 83 zPty :: A)) := H4
  go_wp2_with fail
  refine (num_e H4.out 2 (by decide) (by decide)).mono ?_
  rintro e w5 ⟨n5, R5, e5, l5, rfl, g5, h5⟩
  have E5 := Lib.hid e5
  have H5 := Lib.hid h5
  clear e5 h5 H4
  have c5 := (H5.out.pull 1 rfl).cell 0
  have z5 := (H5.out.pull 1 rfl).frozen 0
  go_upto_region 4 with (fail)
  have H6 := Lib.hid ((H5.out.pull 1 rfl).set 0 (.int .i64 (n5 : Int)) (by decide)).swap
  clear H5 c5 z5
  generalize World.setCell _ _ _ = w6 at *
  refine wp_region_last (fun _ => True) 4 (by kernel_rfl) trivial (fun hHeld => ?_)
  refine wpAnyG_take 0 (oi := ?o3) ?v3 ?hi3 (by kernel_rfl) (by kernel_rfl) (by decide) (by kernel_rfl) (by kernel_rfl) ?hq3 ?hg3 ?hy3 (by assumption) ?hk3
  case hi3 => (simp only [List.getElem?_toArray, List.getElem?_cons_succ, List.getElem?_cons_zero]; rfl)
  case hq3 => exact fun _ _ _ h => h
  case hg3 => rfl
  case hy3 => (intro X hX; go_simp; try with_reducible rfl)
  try simp only [Act.put, List.setIfInBounds_toArray, List.set_cons_zero, List.set_cons_succ]
  refine wpAnyG_take 1 (oi := ?o4) ?v4 ?hi4 (by kernel_rfl) (by kernel_rfl) (by decide) (by kernel_rfl) (by kernel_rfl) ?hq4 ?hg4 ?hy4 (by assumption) ?hk4
  case hi4 => (simp only [List.getElem?_toArray, List.getElem?_cons_succ, List.getElem?_cons_zero]; rfl)
  case hq4 => exact fun _ _ _ h => h
  case hg4 => rfl
  case hy4 => (intro X hX; go_simp; try with_reducible rfl)
  try simp only [Act.put, List.setIfInBounds_toArray, List.set_cons_zero, List.set_cons_succ]
  refine wpAnyG_take 2 (oi := ?o5) ?v5 ?hi5 (by kernel_rfl) (by kernel_rfl) (by decide) (by kernel_rfl) (by kernel_rfl) ?hq5 ?hg5 ?hy5 (by assumption) ?hk5
  case hi5 => (simp only [List.getElem?_toArray, List.getElem?_cons_succ, List.getElem?_cons_zero]; rfl)
  case hq5 => exact fun _ _ _ h => h
  case hg5 => rfl
  case hy5 => (intro X hX; go_simp; try with_reducible rfl)
  try simp only [Act.put, List.setIfInBounds_toArray, List.set_cons_zero, List.set_cons_succ]
  refine wpAnyG_one 3 (o := ?o6) (by kernel_rfl) ?hi6 ?hg6 ?hk6
  case hi6 => (simp only [List.getElem?_toArray, List.getElem?_cons_succ, List.getElem?_cons_zero]; rfl)
  case hg6 => rfl
  intro K hK
  go_simp
  refine (bytes_e H6.out.drew 6 (by decide)).mono ?_
  rintro e w7 ⟨n7, R7, e7, l7, rfl, g7, h7⟩
  have E7 := Lib.hid e7
  have H7 := Lib.hid h7
  refine hK.out _ _ (fun _ => trivial) (fun _ => ?_)
  clear e7 h7 H6 hK K
  try simp only [Act.put, List.setIfInBounds_toArray, List.set_cons_zero, List.set_cons_succ]
  refine wpAnyG_one 4 (o := ?o7) (by kernel_rfl) ?hi7 ?hg7 ?hk7
  case hi7 => (simp only [List.getElem?_toArray, List.getElem?_cons_succ, List.getElem?_cons_zero]; rfl)
  case hg7 => rfl
  intro K hK
  have h7' : St B w0 w7 (bk P5 83 ([.int .i64 (n5 : Int)] ++ (zero6 ++ [.int .i64 0, .int .i64 0, .int .i64 0, .int .i64 0])) :: rd b R7 g7 :: bk w.heap.size 83 zPty :: A) := H7.out.pull 1 rfl
  refine Lib.wp_copy_run _ (.tmp 15) (.tmp 17) 90 9 rfl _ _ rfl rfl (copyAd_run [.int .i64 (n5 : Int)] [.int .i64 0, .int .i64 0, .int .i64 0, .int .i64 0] 1 6 n7 h7' rfl l7 _) ?_
  refine hK.out _ _ (fun h => absurd rfl h) (fun _ => ?_)
  refine wpAnyG_done (by kernel_rfl) ?_ _
  have H8 := Lib.hid (St.copyAd [.int .i64 (n5 : Int)] [.int .i64 0, .int .i64 0, .int .i64 0, .int .i64 0] 1 n7 h7' rfl l7).swap
  clear h7' hK K H7
  generalize World.setRow _ _ _ = w8 at *
  go_wp2_with fail
  refine (num_e H8.out 2 (by decide) (by decide)).mono ?_
  rintro e w9 ⟨n9, R9, e9, l9, rfl, g9, h9⟩
  have E9 := Lib.hid e9
  have H9 := Lib.hid h9
  clear e9 h9 H8
  go_wp2_with fail
  refine (num_e H9.out 2 (by decide) (by decide)).mono ?_
  rintro e w10 ⟨n10, R10, e10, l10, rfl, g10, h10⟩
  have E10 := Lib.hid e10
  have H10 := Lib.hid h10
  clear e10 h10 H9
  go_wp2_with fail
  refine (num_e H10.out 2 (by decide) (by decide)).mono ?_
  rintro e w11 ⟨n11, R11, e11, l11, rfl, g11, h11⟩
  have E11 := Lib.hid e11
  have H11 := Lib.hid h11
  clear e11 h11 H10
  go_wp2_with fail
  refine (num_e H11.out 1 (by decide) (by decide)).mono ?_
  rintro e w12 ⟨n12, R12, e12, l12, rfl, g12, h12⟩
  have E12 := Lib.hid e12
  have H12 := Lib.hid h12
  clear e12 h12 H11
  have c7 : w12.cell? ⟨P5, 7, none⟩ = some (.int .i64 0) := (H12.out.pull 1 rfl).cell 7
  have z7 := (H12.out.pull 1 rfl).frozen 7
  have c8 : w12.cell? ⟨P5, 8, none⟩ = some (.int .i64 0) := (H12.out.pull 1 rfl).cell 8
  have z8 := (H12.out.pull 1 rfl).frozen 8
  have c9 : w12.cell? ⟨P5, 9, none⟩ = some (.int .i64 0) := (H12.out.pull 1 rfl).cell 9
  have z9 := (H12.out.pull 1 rfl).frozen 9
  have c10 : w12.cell? ⟨P5, 10, none⟩ = some (.int .i64 0) := (H12.out.pull 1 rfl).cell 10
  have z10 := (H12.out.pull 1 rfl).frozen 10
  go_upto_region 6 with (fail)
  have h13 := (((((H12.out.pull 1 rfl).set 7 (.int .i64 (n9 : Int)) (by simp [Ad.vals])).set 8 (.int .i64 (n10 : Int)) (by simp [Ad.vals])).set 9 (.int .i64 (n11 : Int)) (by simp [Ad.vals])).set 10 (.int .i64 (n12 : Int)) (by simp [Ad.vals])).swap
  have H13 : Hid (St B w0 _ (rd b R12 g12 :: bk P5 83 (Pty.vals ⟨n5, Ad.of n7, n9, n10, n11, n12⟩) :: bk w.heap.size 83 zPty :: A)) := Lib.hid h13
  clear h13 c7 z7 c8 z8 c9 z9 c10 z10 H12
  generalize World.setCell _ _ _ = w13 at *
  go_wp2_with fail
  refine (bytes_e H13.out 3 (by decide)).mono ?_
  rintro e w14 ⟨n14, R14, e14, l14, rfl, g14, h14⟩
  have E14 := Lib.hid e14
  have H14 := Lib.hid h14
  clear e14 h14 H13
  have R14' := Lib.hid (Blk.box (H14.out.at 1 rfl)).range
  have B14' := Lib.hid (H14.out.at 2 rfl)
  go_wp2_with (first
    | (with_reducible refine wpList_load_rng (ty := 83) (Pty.vals ⟨n5, Ad.of n7, n9, n10, n11, n12⟩) (by with_unfolding_all rfl) R14'.out Tryd.underlying83 (by with_unfolding_all rfl) (by with_unfolding_all exact info83) ?_)
    | (with_reducible refine wpList_store_blk (ty := 83) (o := 0) _ (Pty.vals ⟨n5, Ad.of n7, n9, n10, n11, n12⟩) (by with_unfolding_all rfl) (by with_unfolding_all rfl) B14'.out (by with_unfolding_all exact Nat.le_refl _) (by with_unfolding_all exact info83) (Pty.one _) (fun W15 hBW15 hoW15 => ?_)))
  have hE : readSideM R kind = (⟨n5, Ad.of n7, n9, n10, n11, n12⟩, R14) := by
    unfold readSideM
    simp only [HR3.out, E5.out, E7.out, E9.out, E10.out, E11.out, E12.out, E14.out]
  rw [hE]
  have h15 := (H14.out.pull 2 rfl).sets (L' := Pty.vals ⟨n5, Ad.of n7, n9, n10, n11, n12⟩) hBW15 hoW15
  refine ret_cell (cs := Pty.vals ⟨n5, Ad.of n7, n9, n10, n11, n12⟩) Tryd.results106 (by rfl) (Blk.box h15.head).range Tryd.underlying83 rfl info83 rfl ⟨rfl, g14, (h15.tail.swap).tail⟩
end
end Go.Proofs.YteibhcocldihbaaDoor

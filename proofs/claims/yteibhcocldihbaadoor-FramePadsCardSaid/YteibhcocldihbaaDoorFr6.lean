/- frame.Read, whatever is read. (Printed by tools/mkfr6.py.) -/
import Derived.Test.YteibhcocldihbaaDoorFr5
import Derived.Test.YteibhcocldihbaaDoorBuild2
import Derived.Test.YteibhcocldihbaaDoorTlv2
import Derived.Test.YteibhcocldihbaaDoorTell2
set_option linter.all false
namespace Go.Proofs.YteibhcocldihbaaDoor
open Go.RowKit
theorem fu_built0 : Tryd.prog.built 57 [] = some (Fu.vals Fu.zero (.slice none 0 0)).toArray := by kernel_rfl
theorem elemTag : ElemOk Tryd.prog 55 124 4 32 := by
  have h : (Tryd.prog.info? 124).map (fun i => (i.zero, i.size, i.bytes)) = some (some (.agg zTk.toArray), 4, 32) := by kernel_rfl
  obtain ⟨i, hi, hz, hs, hb⟩ := info_parts h
  exact ⟨Tryd.underlying55, i, _, hi, hz, hs, hb, rfl, by decide⟩
def tkRow (l : List Tk) : List Value := (l.map Tk.vals).flatten
theorem tkRow_snoc (l : List Tk) (t : Tk) : tkRow (l ++ [t]) = tkRow l ++ t.vals := by simp [tkRow]
@[reducible] def zFu : List Value := [.int .u8 0, .int .u8 0, .int .u8 0, .int .u8 0, .int .u8 0, .int .u8 0, .int .u8 0, .int .u8 0, .int .u8 0, .int .u8 0, .int .u8 0, .int .u8 0, .slice none 0 0, .int .i64 0, .int .i64 0, .int .i64 0, .int .i64 0, .int .i64 0, .int .i64 0, .int .i64 0, .string ⟨#[]⟩]
theorem ErrVar.ext3 {w W : World} (h : ErrVar w) (hb : Below w.heap.size w W) : ErrVar W := by
  have hl := World.block_lt_of_cell? w _ h
  unfold ErrVar at *
  rw [hb.cell hl]; exact h
/-- What Read hands back. -/
def FrGot (s : List UInt8) (e : Ending) (w' : World) : Prop :=
  (∀ f, readFrM s = (f, none) → ∃ A cap, e = .returned (.tuple #[.agg (f.vals (.slice A f.tags.length cap)).toArray, .nilIface]) ∧ SlRow w' w'.heap.size 4 A (f.tags.map Tk.vals)) ∧
  (∀ f c p, readFrM s = (f, some (c, p)) → ∃ q, e = .returned (.tuple #[.agg (Fu.vals Fu.zero (.slice none 0 0)).toArray, .iface 130 (.pointer (some ⟨q, 0, none⟩))]) ∧ q < w'.heap.size ∧ w'.cell? ⟨q, 0, none⟩ = some (.int .i64 c))
theorem FrGot.err {s : List UInt8} {f : Fu} {c p : Int} {q : Nat} {w' : World} (h : readFrM s = (f, some (c, p))) (hq : q < w'.heap.size) (hc : w'.cell? ⟨q, 0, none⟩ = some (.int .i64 c)) : FrGot s (.returned (.tuple #[.agg (Fu.vals Fu.zero (.slice none 0 0)).toArray, .iface 130 (.pointer (some ⟨q, 0, none⟩))])) w' :=
  ⟨fun f' h' => (by rw [h] at h'; cases (Prod.mk.inj h').2), fun f' c' p' h' => by
    rw [h] at h'
    obtain ⟨_, h2⟩ := Prod.mk.inj h'
    injection h2 with h2
    obtain ⟨rfl, _⟩ := Prod.mk.inj h2
    exact ⟨q, rfl, hq, hc⟩⟩
theorem FrGot.ok {s : List UInt8} {f : Fu} {A : Option Addr} {cap : Nat} {w' : World} (h : readFrM s = (f, none)) (hr : SlRow w' w'.heap.size 4 A (f.tags.map Tk.vals)) : FrGot s (.returned (.tuple #[.agg (f.vals (.slice A f.tags.length cap)).toArray, .nilIface])) w' :=
  ⟨fun f' h' => (by
    rw [h] at h'
    obtain ⟨rfl, _⟩ := Prod.mk.inj h'
    exact ⟨A, cap, rfl, hr⟩), fun f' c' p' h' => by rw [h] at h'; cases (Prod.mk.inj h').2⟩
theorem unpV_no (s : Bool) {n : Nat} (h : n % 4096 = 4095) : unpV s n = .tuple #[.agg (Tk.vals ⟨false, 0, false, 0⟩).toArray, .iface 32 (.int .i64 3)] := by unfold unpV; rw [if_pos h]
theorem unpV_ok (s : Bool) {n : Nat} (h : ¬ n % 4096 = 4095) : unpV s n = .tuple #[.agg (unpackM s n).vals.toArray, .nilIface] := by unfold unpV; rw [if_neg h]
theorem tagsM_out {f : Nat} {R : RS} {p n : Nat} {l : List Tk} (h : ¬ (R.err = none ∧ (n = 33024 ∨ n = 34984))) : tagsM (f + 1) R p n l = (l, R, p, n) := by
  unfold tagsM; rw [if_neg h]
theorem tagsM_b1 {f : Nat} {R R2 : RS} {p n m : Nat} {l : List Tk} (h : R.err = none ∧ (n = 33024 ∨ n = 34984)) (e : numM R 2 = (m, R2)) (h2 : R2.err ≠ none) : tagsM (f + 1) R p n l = (l, R2, p, n) := by
  unfold tagsM; rw [if_pos h, e]; simp only []; rw [if_pos h2]
theorem tagsM_b2 {f : Nat} {R R2 : RS} {p n m : Nat} {l : List Tk} (h : R.err = none ∧ (n = 33024 ∨ n = 34984)) (e : numM R 2 = (m, R2)) (h2 : R2.err = none) (h3 : m % 4096 = 4095) : tagsM (f + 1) R p n l = (l, failM R2 3 ((p + 2 : Nat) : Int), p, n) := by
  unfold tagsM; rw [if_pos h, e]; simp only []; rw [if_neg (by rw [h2]; simp), if_pos h3]
theorem tagsM_b3 {f : Nat} {R R2 : RS} {p n m : Nat} {l : List Tk} {s : Bool} (h : R.err = none ∧ (n = 33024 ∨ n = 34984)) (e : numM R 2 = (m, R2)) (h2 : R2.err = none) (h3 : ¬ m % 4096 = 4095) (hs : decide (n = 34984) = s) (h4 : stackB (l ++ [unpackM s m]) = false) : tagsM (f + 1) R p n l = (l ++ [unpackM s m], failM R2 10 (p : Int), p, n) := by
  unfold tagsM; rw [if_pos h, e]; simp only []; rw [if_neg (by rw [h2]; simp), if_neg h3, hs, if_pos h4]
theorem tagsM_go {f : Nat} {R R2 R3 : RS} {p n m k : Nat} {l : List Tk} {s : Bool} (h : R.err = none ∧ (n = 33024 ∨ n = 34984)) (e : numM R 2 = (m, R2)) (h2 : R2.err = none) (h3 : ¬ m % 4096 = 4095) (hs : decide (n = 34984) = s) (h4 : stackB (l ++ [unpackM s m]) = true) (e2 : numM R2 2 = (k, R3)) : tagsM (f + 1) R p n l = tagsM f R3 R2.place k (l ++ [unpackM s m]) := by
  conv => lhs; unfold tagsM
  rw [if_pos h, e]; simp only []; rw [if_neg (by rw [h2]; simp), if_neg h3, hs, if_neg (by rw [h4]; simp), e2]
set_option maxRecDepth 100000 in
set_option maxHeartbeats 20000000 in
theorem frRead_any (s : List UInt8) (hs : s.length ≤ 1000000) (w : World) (hE : ErrVar w) :
    Calls Tryd.prog 28 #[.string ⟨s.toArray⟩] w fun e w' => FrGot s e w' ∧ Below w.heap.size w w' := by
  have H1 := Lib.hid ((St.init w).alloc zFu 57)
  have HE := Lib.hid hE
  clear hE
  unfold zFu at H1
  by_cases hlen : 2000 < s.length
  · have hl : (2000 : Int) < (s.length : Int) := by omega
    have hM : readFrM s = (Fu.zero, some (4, 2000)) := by unfold readFrM; rw [if_pos hlen]
    have HM := Lib.hid hM
    clear hM hlen
    go_enter Tryd.func28, Tryd.ntmps28
    go_upto_region 1 with (fail)
    generalize World.alloc _ _ = w1 at *
    have H1 : Hid (St w.heap.size w w1 (bk w.heap.size 57 (Fu.vals Fu.zero (.slice none 0 0)) :: [])) := H1
    have hb2 : Below w1.heap.size w1 (w1.alloc (.cells #[.int .i64 4, .int .i64 2000] 132)) := (Below.refl _ _).alloc (Nat.le_refl _) _
    have H2 := Lib.hid (H1.out.alloc [.int .i64 4, .int .i64 2000] 132).swap
    have B2 := Lib.hid (H2.out.at 0 rfl)
    go_wp2_with (first
      | (with_reducible refine wpList_buildA (t := 57) [] (Fu.vals Fu.zero (.slice none 0 0)) (by with_unfolding_all rfl) fu_built0 ?_)
      | (with_reducible refine wpList_store_blk (ty := 57) (o := 0) _ (Fu.vals Fu.zero (.slice none 0 0)) (by with_unfolding_all rfl) (by with_unfolding_all rfl) B2.out (by with_unfolding_all exact Nat.le_refl _) (by with_unfolding_all exact info57) (Fu.one _ _ rfl) (fun W3 hBW3 hoW3 => ?_)))
    have h3 := H2.out.sets (L' := Fu.vals Fu.zero (.slice none 0 0)) hBW3 hoW3
    have hbx := Blk.box (h3.at 1 rfl : Blk W3 w1.heap.size 132 [.int .i64 4, .int .i64 2000])
    refine ret_cell2 (cs := Fu.vals Fu.zero (.slice none 0 0)) Tryd.results28 (by rfl) (by rfl) (Blk.box h3.head).range Tryd.underlying57 rfl info57 rfl ⟨FrGot.err HM.out (h3.at 1 rfl : Blk W3 w1.heap.size 132 [.int .i64 4, .int .i64 2000]).lt (hbx.cell 0), h3.below⟩
  have hl : ¬ (2000 : Int) < (s.length : Int) := by omega
  have hlen' : s.length ≤ 2000 := by omega
  go_enter Tryd.func28, Tryd.ntmps28
  go_upto_region 1 with (fail)
  generalize World.alloc _ _ = w1 at *
  have H1 : Hid (St w.heap.size w w1 (bk w.heap.size 57 (Fu.vals Fu.zero (.slice none 0 0)) :: [])) := H1
  go_wp2_with fail
  refine (new_st H1.out s 0 (by omega)).mono ?_
  rintro e w2 ⟨rfl, h2⟩
  have H2 := Lib.hid (h2.own0 124 4)
  clear h2 H1
  generalize hb : w1.heap.size = b at *
  clear hb
  have H3 := Lib.hid (H2.out.alloc zFu 57)
  unfold zFu at H3
  go_upto_region 5 with (fail)
  generalize World.alloc _ _ = w3 at *
  generalize w2.heap.size = P at *
  have H3 : Hid (St w.heap.size w w3 (rd b (newM s 0) 0 :: bk P 57 (zero6 ++ (zero6 ++ [.slice none 0 0, .int .i64 0, .int .i64 0, .int .i64 0, .int .i64 0, .int .i64 0, .int .i64 0, .int .i64 0, .string ⟨#[]⟩])) :: bk w.heap.size 57 (Fu.vals Fu.zero (.slice none 0 0)) :: ownI 124 4 (.slice none 0 0) 0 [] :: [])) := Lib.hid ((((H3.out.pull 1 rfl).pull 3 rfl).pull 2 rfl).pull 3 rfl)
  clear H2
  refine wp_region_last (fun _ => True) 4 (by kernel_rfl) trivial (fun hHeld => ?_)
  refine wpAnyG_take 0 (oi := ?o3) ?v3 ?hi3 (by kernel_rfl) (by kernel_rfl) (by decide) (by kernel_rfl) (by kernel_rfl) ?hq3 ?hg3 ?hy3 (by assumption) ?hk3
  case hi3 => (simp only [List.getElem?_toArray, List.getElem?_cons_succ, List.getElem?_cons_zero]; rfl)
  case hq3 => exact fun _ _ _ h => h
  case hg3 => rfl
  case hy3 => (intro X hX; go_simp; try with_reducible rfl)
  try simp only [Act.put, List.setIfInBounds_toArray, List.set_cons_zero, List.set_cons_succ]
  refine wpAnyG_take 1 (oi := ?o4) ?v4 ?hi4 (by kernel_rfl) (by kernel_rfl) (by decide) (by kernel_rfl) (by kernel_rfl) ?hq4 ?hg4 ?hy4 (by assumption) ?hk4
  case hi4 => (simp only [List.getElem?_toArray, List.getElem?_cons_succ, List.getElem?_cons_zero]; rfl)
  case hq4 => exact fun _ _ _ h => h
  case hg4 => rfl
  case hy4 => (intro X hX; go_simp; try with_reducible rfl)
  try simp only [Act.put, List.setIfInBounds_toArray, List.set_cons_zero, List.set_cons_succ]
  refine wpAnyG_take 2 (oi := ?o5) ?v5 ?hi5 (by kernel_rfl) (by kernel_rfl) (by decide) (by kernel_rfl) (by kernel_rfl) ?hq5 ?hg5 ?hy5 (by assumption) ?hk5
  case hi5 => (simp only [List.getElem?_toArray, List.getElem?_cons_succ, List.getElem?_cons_zero]; rfl)
  case hq5 => exact fun _ _ _ h => h
  case hg5 => rfl
  case hy5 => (intro X hX; go_simp; try with_reducible rfl)
  try simp only [Act.put, List.setIfInBounds_toArray, List.set_cons_zero, List.set_cons_succ]
  refine wpAnyG_one 3 (o := ?o6) (by kernel_rfl) ?hi6 ?hg6 ?hk6
  case hi6 => (simp only [List.getElem?_toArray, List.getElem?_cons_succ, List.getElem?_cons_zero]; rfl)
  case hg6 => rfl
  intro K hK
  go_simp
  refine (bytes_e H3.out.drew 6 (by decide)).mono ?_
  rintro e w4 ⟨n4, R4, e4, l4, rfl, g4, h4⟩
  have E4 := Lib.hid e4
  have H4 := Lib.hid h4
  refine hK.out _ _ (fun _ => trivial) (fun _ => ?_)
  clear e4 h4 H3 hK K
  try simp only [Act.put, List.setIfInBounds_toArray, List.set_cons_zero, List.set_cons_succ]
  refine wpAnyG_one 4 (o := ?o7) (by kernel_rfl) ?hi7 ?hg7 ?hk7
  case hi7 => (simp only [List.getElem?_toArray, List.getElem?_cons_succ, List.getElem?_cons_zero]; rfl)
  case hg7 => rfl
  intro K hK
  have h4' : St w.heap.size w w4 (bk P 57 ([] ++ (zero6 ++ (zero6 ++ [.slice none 0 0, .int .i64 0, .int .i64 0, .int .i64 0, .int .i64 0, .int .i64 0, .int .i64 0, .int .i64 0, .string ⟨#[]⟩]))) :: rd b R4 g4 :: bk w.heap.size 57 (Fu.vals Fu.zero (.slice none 0 0)) :: ownI 124 4 (.slice none 0 0) 0 [] :: []) := H4.out.pull 1 rfl
  refine Lib.wp_copy_run _ (.tmp 21) (.tmp 23) 90 9 rfl _ _ rfl rfl (copyAd_run [] (zero6 ++ [.slice none 0 0, .int .i64 0, .int .i64 0, .int .i64 0, .int .i64 0, .int .i64 0, .int .i64 0, .int .i64 0, .string ⟨#[]⟩]) 0 6 n4 h4' rfl l4 _) ?_
  refine hK.out _ _ (fun h => absurd rfl h) (fun _ => ?_)
  refine wpAnyG_done (by kernel_rfl) ?_ _
  have H5 := Lib.hid (St.copyAd [] (zero6 ++ [.slice none 0 0, .int .i64 0, .int .i64 0, .int .i64 0, .int .i64 0, .int .i64 0, .int .i64 0, .int .i64 0, .string ⟨#[]⟩]) 0 n4 h4' rfl l4).swap
  clear h4' hK K H4 hHeld
  generalize World.setRow _ _ _ = w5 at *
  go_upto_region 6 with (fail)
  refine wp_region_last (fun _ => True) 4 (by kernel_rfl) trivial (fun hHeld => ?_)
  refine wpAnyG_take 0 (oi := ?o9) ?v9 ?hi9 (by kernel_rfl) (by kernel_rfl) (by decide) (by kernel_rfl) (by kernel_rfl) ?hq9 ?hg9 ?hy9 (by assumption) ?hk9
  case hi9 => (simp only [List.getElem?_toArray, List.getElem?_cons_succ, List.getElem?_cons_zero]; rfl)
  case hq9 => exact fun _ _ _ h => h
  case hg9 => rfl
  case hy9 => (intro X hX; go_simp; try with_reducible rfl)
  try simp only [Act.put, List.setIfInBounds_toArray, List.set_cons_zero, List.set_cons_succ]
  refine wpAnyG_take 1 (oi := ?o10) ?v10 ?hi10 (by kernel_rfl) (by kernel_rfl) (by decide) (by kernel_rfl) (by kernel_rfl) ?hq10 ?hg10 ?hy10 (by assumption) ?hk10
  case hi10 => (simp only [List.getElem?_toArray, List.getElem?_cons_succ, List.getElem?_cons_zero]; rfl)
  case hq10 => exact fun _ _ _ h => h
  case hg10 => rfl
  case hy10 => (intro X hX; go_simp; try with_reducible rfl)
  try simp only [Act.put, List.setIfInBounds_toArray, List.set_cons_zero, List.set_cons_succ]
  refine wpAnyG_take 2 (oi := ?o11) ?v11 ?hi11 (by kernel_rfl) (by kernel_rfl) (by decide) (by kernel_rfl) (by kernel_rfl) ?hq11 ?hg11 ?hy11 (by assumption) ?hk11
  case hi11 => (simp only [List.getElem?_toArray, List.getElem?_cons_succ, List.getElem?_cons_zero]; rfl)
  case hq11 => exact fun _ _ _ h => h
  case hg11 => rfl
  case hy11 => (intro X hX; go_simp; try with_reducible rfl)
  try simp only [Act.put, List.setIfInBounds_toArray, List.set_cons_zero, List.set_cons_succ]
  refine wpAnyG_one 3 (o := ?o12) (by kernel_rfl) ?hi12 ?hg12 ?hk12
  case hi12 => (simp only [List.getElem?_toArray, List.getElem?_cons_succ, List.getElem?_cons_zero]; rfl)
  case hg12 => rfl
  intro K hK
  go_simp
  refine (bytes_e H5.out.drew 6 (by decide)).mono ?_
  rintro e w6 ⟨n6, R6, e6, l6, rfl, g6, h6⟩
  have E6 := Lib.hid e6
  have H6 := Lib.hid h6
  refine hK.out _ _ (fun _ => trivial) (fun _ => ?_)
  clear e6 h6 H5 hK K
  try simp only [Act.put, List.setIfInBounds_toArray, List.set_cons_zero, List.set_cons_succ]
  refine wpAnyG_one 4 (o := ?o13) (by kernel_rfl) ?hi13 ?hg13 ?hk13
  case hi13 => (simp only [List.getElem?_toArray, List.getElem?_cons_succ, List.getElem?_cons_zero]; rfl)
  case hg13 => rfl
  intro K hK
  have h6' : St w.heap.size w w6 (bk P 57 ((Ad.of n4).vals ++ (zero6 ++ ([.slice none 0 0, .int .i64 0, .int .i64 0, .int .i64 0, .int .i64 0, .int .i64 0, .int .i64 0, .int .i64 0, .string ⟨#[]⟩]))) :: rd b R6 g6 :: bk w.heap.size 57 (Fu.vals Fu.zero (.slice none 0 0)) :: ownI 124 4 (.slice none 0 0) 0 [] :: []) := H6.out.pull 1 rfl
  refine Lib.wp_copy_run _ (.tmp 26) (.tmp 28) 90 9 rfl _ _ rfl rfl (copyAd_run (Ad.of n4).vals ([.slice none 0 0, .int .i64 0, .int .i64 0, .int .i64 0, .int .i64 0, .int .i64 0, .int .i64 0, .int .i64 0, .string ⟨#[]⟩]) 6 6 n6 h6' rfl l6 _) ?_
  refine hK.out _ _ (fun h => absurd rfl h) (fun _ => ?_)
  refine wpAnyG_done (by kernel_rfl) ?_ _
  have H7 := Lib.hid (St.copyAd (Ad.of n4).vals ([.slice none 0 0, .int .i64 0, .int .i64 0, .int .i64 0, .int .i64 0, .int .i64 0, .int .i64 0, .int .i64 0, .string ⟨#[]⟩]) 6 n6 h6' rfl l6).swap
  clear h6' hK K H6 hHeld
  generalize World.setRow _ _ _ = w7 at *
  have H7 : Hid (St w.heap.size w w7 (rd b R6 g6 :: bk P 57 (Fu.vals ⟨Ad.of n4, Ad.of n6, [], 0, 0, 0, 0, 0, 0, 0, []⟩ (.slice none 0 0)) :: bk w.heap.size 57 (Fu.vals Fu.zero (.slice none 0 0)) :: ownI 124 4 (.slice none 0 0) 0 [] :: [])) := H7
  go_wp2_with fail
  refine (at_st H7.out).mono ?_
  rintro e w8 ⟨rfl, h8⟩
  have H8 := Lib.hid h8
  clear h8 H7
  obtain ⟨p8, hp8⟩ : ∃ p, R6.place = p := ⟨_, rfl⟩
  have HP8 := Lib.hid hp8
  have hp8b : p8 ≤ 4611686018427387904 := by
    rw [← hp8]
    have a := H8.out.rdp.ok.le
    have b := H8.out.rdp.ok.lim
    unfold RS.place; omega
  rw [hp8]
  clear hp8
  go_wp2_with fail
  refine (num_e H8.out 2 (by decide) (by decide)).mono ?_
  rintro e w9 ⟨n9, R9, e9, l9, rfl, g9, h9⟩
  have E9 := Lib.hid e9
  have H9 := Lib.hid h9
  clear e9 h9 H8
  have hRd : readFrM s = endFrM ⟨Ad.of n4, Ad.of n6, (tagsM 4 R9 p8 n9 []).1, 0, 0, 0, 0, 0, 0, 0, []⟩ (tagsM 4 R9 p8 n9 []).2.1 (tagsM 4 R9 p8 n9 []).2.2.1 (tagsM 4 R9 p8 n9 []).2.2.2 := by
    unfold readFrM
    rw [if_neg (by omega)]
    simp only [E4.out, E6.out, E9.out, HP8.out]
  obtain ⟨TX, hTX⟩ : ∃ X, tagsM 4 R9 p8 n9 [] = X := ⟨_, rfl⟩
  rw [hTX] at hRd
  have HRd := Lib.hid hRd
  have HTX := Lib.hid hTX
  clear hRd hTX E4 E6 E9 HP8
  go_upto_block 0 with (fail)
  go_cut [6, 7] (fun v6 v7 wx => ∃ (p n : Nat) (l : List Tk) (R : RS) (g : Nat) (sv : Value), v6 = .int .i64 p ∧ v7 = .int .i64 n ∧ n < 65536 ∧ p ≤ 4611686018427387904 ∧ l.length ≤ 3 ∧ Hid (TX = (l, R, p, n)) ∧ Hid (St w.heap.size w wx (rd b R g :: bk P 57 (Fu.vals ⟨Ad.of n4, Ad.of n6, l, 0, 0, 0, 0, 0, 0, 0, []⟩ sv) :: bk w.heap.size 57 (Fu.vals Fu.zero (.slice none 0 0)) :: ownI 124 4 sv l.length (tkRow l) :: [])))
  case first =>
    go_upto_region 8 with (fail)
    go_loopg [6, 7, 8, 9] 4 (fun gk s6 s7 _ _ wr => ∃ (p n : Nat) (l : List Tk) (R : RS) (g : Nat) (sv : Value), s6 = .int .i64 p ∧ s7 = .int .i64 n ∧ n < 65536 ∧ p ≤ 4611686018427387904 ∧ Hid (tagsM gk R p n l = TX) ∧ Hid (l.length + gk = 4) ∧ Hid (stackB l = true) ∧ Hid (St w.heap.size w wr (rd b R g :: bk P 57 (Fu.vals ⟨Ad.of n4, Ad.of n6, l, 0, 0, 0, 0, 0, 0, 0, []⟩ sv) :: bk w.heap.size 57 (Fu.vals Fu.zero (.slice none 0 0)) :: ownI 124 4 sv l.length (tkRow l) :: [])))
    case atStart => exact ⟨p8, n9, [], R9, g9, .slice none 0 0, rfl, rfl, l9, hp8b, HTX, Lib.hid rfl, Lib.hid rfl, H9⟩
    case round =>
      obtain ⟨p, n, l, R, g, sv, rfl, rfl, hn, hp, HT, HL, HK, HS⟩ := hrel
      clear H9 HTX
      have hl2 := stack_len HK.out
      obtain ⟨f, rfl⟩ : ∃ f, gk = f + 1 := ⟨gk - 1, by have := HL.out; omega⟩
      obtain ⟨cond, hcd⟩ : ∃ c, decide (R.err = none ∧ (n = 33024 ∨ n = 34984)) = c := ⟨_, rfl⟩
      have Hcd := Lib.hid hcd
      clear hcd
      go_upto_region 8 with (fail)
      go_cut [44] (fun v wx => v = .bool cond ∧ wx = wr)
      case first =>
        cases he : R.err with
        | some x =>
          obtain rfl : cond = false := by rw [← Hcd.out, he]; simp
          have He := Lib.hid (errV_some he g)
          clear he
          go_wp2_with (first
            | ((with_reducible refine (err_st HS.out).mono ?_)
               rintro e w60 ⟨rfl, rfl⟩
               rw [He.out]))
          go_meet
          exact ⟨rfl, rfl⟩
        | none =>
          have He := Lib.hid (errV_none he g)
          by_cases h1 : n = 33024
          · obtain rfl : cond = true := by rw [← Hcd.out, he]; simp [h1]
            have b1 : ((n : Int) == 33024) = true := by rw [h1]; rfl
            clear he h1
            go_wp2_with (first
              | ((with_reducible refine (err_st HS.out).mono ?_)
                 rintro e w60 ⟨rfl, rfl⟩
                 rw [He.out]))
            go_meet
            exact ⟨rfl, rfl⟩
          · have b1 : ((n : Int) == 33024) = false := by rw [beq_eq_false_iff_ne]; omega
            by_cases h2 : n = 34984
            · obtain rfl : cond = true := by rw [← Hcd.out, he]; simp [h2]
              have b2 : ((n : Int) == 34984) = true := by rw [h2]; rfl
              clear he h1 h2
              go_wp2_with (first
                | ((with_reducible refine (err_st HS.out).mono ?_)
                   rintro e w60 ⟨rfl, rfl⟩
                   rw [He.out]))
              go_meet
              exact ⟨rfl, rfl⟩
            · obtain rfl : cond = false := by rw [← Hcd.out]; simp [h1, h2]
              have b2 : ((n : Int) == 34984) = false := by rw [beq_eq_false_iff_ne]; omega
              clear he h1 h2
              go_wp2_with (first
                | ((with_reducible refine (err_st HS.out).mono ?_)
                   rintro e w60 ⟨rfl, rfl⟩
                   rw [He.out]))
              go_meet
              exact ⟨rfl, rfl⟩
      case rest =>
      obtain ⟨rfl, rfl⟩ := hcut
      go_upto_if 44 with (fail)
      cases cond
      · have hX := HT.out.symm.trans (tagsM_out (of_decide_eq_false Hcd.out))
        have HX := Lib.hid hX
        clear hX
        go_wp2_with fail
        go_meet
        exact ⟨p, n, l, R, g, sv, rfl, rfl, hn, hp, by omega, HX, HS⟩
      · have hc := of_decide_eq_true Hcd.out
        have Hc := Lib.hid hc
        clear hc Hcd
        obtain ⟨sB, hsB⟩ : ∃ z, decide (n = 34984) = z := ⟨_, rfl⟩
        have hsB2 : ((n : Int) == 34984) = sB := by
          rw [← hsB]
          by_cases h : n = 34984
          · rw [h]; rfl
          · rw [decide_eq_false h, beq_eq_false_iff_ne]; omega
        have HsB := Lib.hid hsB
        clear hsB
        have HS0 := HS
        go_wp2_with fail
        refine (num_e HS0.out 2 (by decide) (by decide)).mono ?_
        rintro e w10 ⟨n10, R10, e10, l10, rfl, g10, h10⟩
        have E10 := Lib.hid e10
        have H10 := Lib.hid h10
        clear e10 h10 HS0
        have HU := Lib.hid (fun W => tkUnpack_any sB n10 l10 W)
        obtain ⟨Al, cl, rfl⟩ := own_shape (H10.out.item (k := ownI 124 4 sv l.length (tkRow l)) (List.mem_of_getElem? (i := 3) rfl))
        by_cases hr : R10.err = none
        rotate_left
        · obtain ⟨x, hx⟩ := Option.ne_none_iff_exists'.1 hr
          have He := Lib.hid (errV_some hx g10)
          have HX := Lib.hid (HT.out.symm.trans (tagsM_b1 Hc.out E10.out hr))
          obtain ⟨tv, ev, hV⟩ : ∃ t ev, unpV sB n10 = .tuple #[.agg (Tk.vals t).toArray, ev] := by
            unfold unpV; split
            · exact ⟨_, _, rfl⟩
            · exact ⟨_, _, rfl⟩
          have HV := Lib.hid hV
          clear hV hr hx
          go_upto_region 10 with (first
            | ((with_reducible refine (HU.out _).mono ?_)
               rintro e w11 ⟨rfl, hb11⟩
               have H11 := Lib.hid (H10.out.ext hb11)
               clear hb11
               rw [HV.out])
            | (with_reducible refine wpList_store_blk (ty := 124) (o := 0) _ (Tk.vals tv) (by with_unfolding_all rfl) (by with_unfolding_all rfl) (Blk.new w11 zTk 124) (by with_unfolding_all exact Nat.le_refl _) (by with_unfolding_all exact info124) (Tk.one _) (fun W12 hBW12 hoW12 => ?_)))
          have H12 : Hid (St w.heap.size w W12 (rd b R10 g10 :: bk w11.heap.size 124 (Tk.vals tv) :: bk P 57 (Fu.vals ⟨Ad.of n4, Ad.of n6, l, 0, 0, 0, 0, 0, 0, 0, []⟩ (.slice Al l.length cl)) :: bk w.heap.size 57 (Fu.vals Fu.zero (.slice none 0 0)) :: ownI 124 4 (.slice Al l.length cl) l.length (tkRow l) :: [])) := Lib.hid ((H11.out.alloc zTk 124).sets (L' := Tk.vals tv) hBW12 hoW12).swap
          clear hBW12 hoW12 H11 H10
          go_wp2_with (first
            | ((with_reducible refine (err_st H12.out).mono ?_)
               rintro e w60 ⟨rfl, rfl⟩
               rw [He.out]))
          go_meet
          exact ⟨p, n, l, R10, g10, _, rfl, rfl, hn, hp, by omega, HX, Lib.hid H12.out.swap.tail⟩
        have He := Lib.hid (errV_none hr g10)
        by_cases h3 : n10 % 4096 = 4095
        · have HX := Lib.hid (HT.out.symm.trans (tagsM_b2 Hc.out E10.out hr h3))
          have HV := Lib.hid (unpV_no sB h3)
          clear h3 hr
          go_upto_region 10 with (first
            | ((with_reducible refine (HU.out _).mono ?_)
               rintro e w11 ⟨rfl, hb11⟩
               have H11 := Lib.hid (H10.out.ext hb11)
               clear hb11
               rw [HV.out])
            | (with_reducible refine wpList_store_blk (ty := 124) (o := 0) _ (Tk.vals ⟨false, 0, false, 0⟩) (by with_unfolding_all rfl) (by with_unfolding_all rfl) (Blk.new w11 zTk 124) (by with_unfolding_all exact Nat.le_refl _) (by with_unfolding_all exact info124) (Tk.one _) (fun W12 hBW12 hoW12 => ?_)))
          have H12 : Hid (St w.heap.size w W12 (rd b R10 g10 :: bk w11.heap.size 124 (Tk.vals ⟨false, 0, false, 0⟩) :: bk P 57 (Fu.vals ⟨Ad.of n4, Ad.of n6, l, 0, 0, 0, 0, 0, 0, 0, []⟩ (.slice Al l.length cl)) :: bk w.heap.size 57 (Fu.vals Fu.zero (.slice none 0 0)) :: ownI 124 4 (.slice Al l.length cl) l.length (tkRow l) :: [])) := Lib.hid ((H11.out.alloc zTk 124).sets (L' := Tk.vals ⟨false, 0, false, 0⟩) hBW12 hoW12).swap
          clear hBW12 hoW12 H11 H10
          have HTl := Lib.hid (tell_errno 3 W12 (HE.out.ext3 H12.out.below))
          have hpp : ((p + 2 : Nat) : Int) = (p : Int) + 2 := by omega
          have Hpp := Lib.hid hpp
          clear hpp
          go_wp2_with (first
            | ((with_reducible refine (err_st H12.out).mono ?_)
               rintro e w60 ⟨rfl, rfl⟩
               rw [He.out])
            | ((with_reducible refine HTl.out.mono ?_)
               rintro e w13 ⟨rfl, hb13⟩
               have H13 := Lib.hid (H12.out.ext hb13)
               clear hb13)
            | ((with_reducible refine (fail_st H13.out 3 _).mono ?_)
               rintro e w14 ⟨rfl, g14, h14⟩
               have H14 := Lib.hid h14
               clear h14))
          go_meet
          exact ⟨p, n, l, failM R10 3 ((p + 2 : Nat) : Int), g14, _, rfl, rfl, hn, hp, by omega, HX, Lib.hid (by rw [Hpp.out]; exact H14.out.swap.tail)⟩
        have htok := (unpack_ok sB (n := n10) (by omega) h3).1
        have hB3 := fun h => tagsM_b3 (f := f) (l := l) (p := p) (s := sB) Hc.out E10.out hr h3 HsB.out h
        have hGO := fun k R3 h e2 => tagsM_go (f := f) (l := l) (p := p) (s := sB) (k := k) (R3 := R3) Hc.out E10.out hr h3 HsB.out h e2
        have HV' := unpV_ok sB h3
        obtain ⟨t, ht⟩ : ∃ t, unpackM sB n10 = t := ⟨_, rfl⟩
        rw [ht] at htok hB3 hGO HV'
        have HV := Lib.hid HV'
        have HB3 := Lib.hid hB3
        have HGO := Lib.hid hGO
        have Htok := Lib.hid htok
        clear h3 hr ht HV' htok hB3 hGO
        go_upto_region 10 with (first
          | ((with_reducible refine (HU.out _).mono ?_)
             rintro e w11 ⟨rfl, hb11⟩
             have H11 := Lib.hid (H10.out.ext hb11)
             clear hb11
             rw [HV.out])
          | (with_reducible refine wpList_store_blk (ty := 124) (o := 0) _ (Tk.vals t) (by with_unfolding_all rfl) (by with_unfolding_all rfl) (Blk.new w11 zTk 124) (by with_unfolding_all exact Nat.le_refl _) (by with_unfolding_all exact info124) (Tk.one _) (fun W12 hBW12 hoW12 => ?_)))
        have H12 : Hid (St w.heap.size w W12 (rd b R10 g10 :: bk w11.heap.size 124 (Tk.vals t) :: bk P 57 (Fu.vals ⟨Ad.of n4, Ad.of n6, l, 0, 0, 0, 0, 0, 0, 0, []⟩ (.slice Al l.length cl)) :: bk w.heap.size 57 (Fu.vals Fu.zero (.slice none 0 0)) :: ownI 124 4 (.slice Al l.length cl) l.length (tkRow l) :: [])) := Lib.hid ((H11.out.alloc zTk 124).sets (L' := Tk.vals t) hBW12 hoW12).swap
        clear hBW12 hoW12 H11 H10
        generalize w11.heap.size = Q at *
        obtain ⟨bad, hbad⟩ : ∃ c, (!stackB (l ++ [t])) = c := ⟨_, rfl⟩
        have Hbad := Lib.hid hbad
        clear hbad
        have c12 : W12.cell? ⟨P, 12, none⟩ = some (.slice Al l.length cl) := (H12.out.pull 2 rfl).cell 12
        have R12 := Lib.hid (Blk.box (H12.out.at 1 rfl)).range
        go_upto_region 14 with (first
          | ((with_reducible refine (err_st H12.out).mono ?_)
             rintro e w60 ⟨rfl, rfl⟩
             rw [He.out])
          | (with_reducible refine wpList_load_rng (ty := 124) t.vals (by with_unfolding_all rfl) R12.out Tryd.underlying124 (by with_unfolding_all rfl) (by with_unfolding_all exact info124) ?_)
          | ((with_reducible refine wpList_build1 t.vals elemTag ?hxb rfl (by decide) ?_)
             case hxb => rfl
             intro W13 hB13 hb13 hl13)
          | (at_builtin; refine wpList_append_st (t := 55) (e := 124) (size := 4) (bytes := 32) (n := l.length) (m := 1) (c := 1) (tkRow l) t.vals elemTag ((H12.out.ext hb13).pull 4 rfl) (by with_unfolding_all rfl) (by with_unfolding_all rfl) (fun j u hj => by rw [Addr.add_mid]; exact (Blk.box hB13).range j u hj) rfl (Tk.one t) (by decide) (by unfold maxLen; omega) (by omega) (fun gT capT W14 H14 => ?_); have c12' : W14.cell? ⟨P, 12, none⟩ = some (.slice Al l.length cl) := (H14.pull 3 rfl).cell 12; have z12' := (H14.pull 3 rfl).frozen 12))
        have h15 := (((H14.pull 3 rfl).set 12 (.slice (some ⟨gT, 0, none⟩) (l.length + 1) capT) (by simp [Fu.len])))
        have h16 : St w.heap.size w _ (rd b R10 g10 :: bk P 57 (Fu.vals ⟨Ad.of n4, Ad.of n6, (l ++ [t]), 0, 0, 0, 0, 0, 0, 0, []⟩ (.slice (some ⟨gT, 0, none⟩) (l.length + 1) capT)) :: bk w.heap.size 57 (Fu.vals Fu.zero (.slice none 0 0)) :: ownI 124 4 (.slice (some ⟨gT, 0, none⟩) (l.length + 1) capT) (l.length + 1) (tkRow l ++ t.vals) :: []) := (((((h15.pull 2 rfl).pull 3 rfl).tail.pull 3 rfl).pull 2 rfl).pull 2 rfl)
        have hl' : (l ++ [t]).length = l.length + 1 := by rw [List.length_append]; rfl
        clear h15
        generalize World.setCell _ _ _ = w16 at *
        rw [← tkRow_snoc, ← hl'] at h16
        have H16 := Lib.hid h16
        clear h16 c12 c12' z12' H14 R12 H12
        have hbd : bad = true ↔ stackB (l ++ [t]) = false := by rw [← Hbad.out]; simp
        have Hbd := Lib.hid hbd
        clear hbd
        have Hll := Lib.hid hl'
        have hst0 : l.length = 0 → bad = false := fun h => by
          have : l = [] := List.length_eq_zero_iff.1 h
          rw [← Hbad.out, this]
          show (!t.okB) = false
          rw [Htok.out]; rfl
        have hst2 : l.length = 2 → bad = true := fun h => by
          rw [Hbd.out]
          cases hq : stackB (l ++ [t]) with
          | false => rfl
          | true => have := stack_len hq; omega
        have Hst0 := Lib.hid hst0
        have Hst2 := Lib.hid hst2
        obtain ⟨l2, hl2e⟩ : ∃ l2, l ++ [t] = l2 := ⟨_, rfl⟩
        rw [hl2e] at H16 hl' HB3 HGO Hbad
        have Hll2 := Lib.hid hl'
        clear hst0 hst2 Htok Hbd hl' Hll hl2e
        have k12 : w16.cell? ⟨P, 12, none⟩ = some (.slice (some ⟨gT, 0, none⟩) l2.length capT) := (H16.out.pull 1 rfl).cell 12
        have hlm : l2.length = l.length + 1 := Hll2.out
        have l2le : l2.length ≤ 3 := by omega
        have hsl : SlRow w16 w16.heap.size 4 (some ⟨gT, 0, none⟩) (l2.map Tk.vals) := by
          have hT : w16.ownsRow 0 124 4 (.slice (some ⟨gT, 0, none⟩) l2.length capT) (l2.map Tk.vals).length (l2.map Tk.vals).flatten := by rw [List.length_map]; exact H16.out.item (k := ownI 124 4 (.slice (some ⟨gT, 0, none⟩) l2.length capT) l2.length (tkRow l2)) (List.mem_of_getElem? (i := 3) rfl)
          obtain ⟨A, cap, e, hA⟩ := own_sl hT (fun c hc => by obtain ⟨t, _, rfl⟩ := List.mem_map.1 hc; rfl)
          injection e with e _ _
          subst e
          exact hA
        have HSk : Hid (Calls Tryd.prog 73 #[.slice (some ⟨gT, 0, none⟩) l2.length capT] w16 fun e w' => e = .returned (.bool (!bad)) ∧ Below w16.heap.size w16 w') := Lib.hid (by
          have := tkStack_any l2 (some ⟨gT, 0, none⟩) capT w16 (by omega) hsl
          rw [show stackB l2 = !bad by rw [← Hbad.out]; simp] at this
          exact this)
        clear hsl hlm
        go_cut [85] (fun v wx => v = .bool bad ∧ Hid (St w.heap.size w wx (rd b R10 g10 :: bk P 57 (Fu.vals ⟨Ad.of n4, Ad.of n6, l2, 0, 0, 0, 0, 0, 0, 0, []⟩ (.slice (some ⟨gT, 0, none⟩) l2.length capT)) :: bk w.heap.size 57 (Fu.vals Fu.zero (.slice none 0 0)) :: ownI 124 4 (.slice (some ⟨gT, 0, none⟩) l2.length capT) l2.length (tkRow l2) :: [])))
        case first =>
          by_cases q3 : 2 < l2.length
          · obtain rfl : bad = true := Hst2.out (by have := Hll2.out; omega)
            have hI : (2 : Int) < (l2.length : Int) := by omega
            clear q3
            go_wp2_with fail
            go_meet
            exact ⟨rfl, H16⟩
          · have hI : ¬ (2 : Int) < (l2.length : Int) := by omega
            by_cases q2 : l2.length = 2
            · have hI2 : ((l2.length : Int) == 2) = true := by rw [q2]; rfl
              clear q2 q3
              go_wp2_with (first
                | ((with_reducible refine HSk.out.mono ?_)
                   rintro e w17 ⟨rfl, hb17⟩
                   have H17 := Lib.hid (H16.out.ext hb17)
                   clear hb17))
              go_meet
              exact ⟨by simp, H17⟩
            · have hI2 : ((l2.length : Int) == 2) = false := by rw [beq_eq_false_iff_ne]; omega
              obtain rfl : bad = false := Hst0.out (by have := Hll2.out; omega)
              clear q2 q3
              go_wp2_with fail
              go_meet
              exact ⟨rfl, H16⟩
        case rest =>
        obtain ⟨rfl, H17⟩ := hcut
        clear HSk k12 H16
        go_upto_if 85 with (fail)
        cases bad
        · have hsk : stackB l2 = true := by have := Hbad.out; simpa using this
          have Hsk := Lib.hid hsk
          clear hsk
          go_wp2_with fail
          refine (at_st H17.out).mono ?_
          rintro e w18 ⟨rfl, h18⟩
          have H18 := Lib.hid h18
          have hpb : R10.place ≤ 4611686018427387904 := by
            have a := h18.rdp.ok.le
            have b := h18.rdp.ok.lim
            unfold RS.place; omega
          clear h18 H17
          obtain ⟨p18, hp18⟩ : ∃ p, R10.place = p := ⟨_, rfl⟩
          have HP18 := Lib.hid hp18
          rw [hp18] at hpb ⊢
          clear hp18
          go_wp2_with fail
          refine (num_e H18.out 2 (by decide) (by decide)).mono ?_
          rintro e w19 ⟨n19, R19, e19, l19, rfl, g19, h19⟩
          have E19 := Lib.hid e19
          have H19 := Lib.hid h19
          clear e19 h19 H18
          have hX := HGO.out n19 R19 Hsk.out E19.out
          rw [HP18.out] at hX
          have HT2 := Lib.hid (hX.symm.trans HT.out)
          clear hX
          go_wp2_with fail
          go_roundg f
          case measure => omega
          case rel => exact ⟨p18, n19, l2, R19, g19, _, rfl, rfl, l19, hpb, HT2, Lib.hid (by have := Hll2.out; have := HL.out; omega), Hsk, H19⟩
        · have hsk : stackB l2 = false := by have := Hbad.out; simpa using this
          have HX := Lib.hid (HT.out.symm.trans (HB3.out hsk))
          clear hsk
          go_wp2_with (first
            | ((with_reducible refine (fail_st H17.out 10 _).mono ?_)
               rintro e w18 ⟨rfl, g18, h18⟩
               have H18 := Lib.hid h18
               clear h18))
          go_meet
          exact ⟨p, n, l2, failM R10 10 (p : Int), g18, _, rfl, rfl, hn, hp, l2le, HX, H18⟩
  case rest =>
  obtain ⟨p, n, l, R, g, sv, rfl, rfl, hn, hp, hl3, HX, HS⟩ := hcut
  generalize wc = w20 at *
  clear H9 HTX
  have hR : readFrM s = endFrM ⟨Ad.of n4, Ad.of n6, l, 0, 0, 0, 0, 0, 0, 0, []⟩ R p n := by rw [HRd.out, HX.out]
  have HR := Lib.hid hR
  clear hR HX HRd
  obtain ⟨Al, cl, rfl⟩ := own_shape (HS.out.item (k := ownI 124 4 sv l.length (tkRow l)) (List.mem_of_getElem? (i := 3) rfl))
  cases he : R.err with
  | some x =>
    have HM := Lib.hid (HR.out.trans (endFr_had he))
    have HeT := Lib.hid (errV_some he g)
    have HxT := Lib.hid he
    have BT := Lib.hid (HS.out.at 2 rfl)
    clear he
    go_wp2_with (first
      | (with_reducible refine wpList_buildA (t := 57) [] (Fu.vals Fu.zero (.slice none 0 0)) (by with_unfolding_all rfl) fu_built0 ?_)
      | ((with_reducible refine (err_st HS.out).mono ?_)
         rintro e w70 ⟨rfl, rfl⟩
         rw [HeT.out])
      | (with_reducible refine wpList_store_blk (ty := 57) (o := 0) _ (Fu.vals Fu.zero (.slice none 0 0)) (by with_unfolding_all rfl) (by with_unfolding_all rfl) BT.out (by with_unfolding_all exact Nat.le_refl _) (by with_unfolding_all exact info57) (Fu.one _ _ rfl) (fun W71 hBW71 hoW71 => ?_)))
    have h71 := (HS.out.pull 2 rfl).sets (L' := (Fu.vals Fu.zero (.slice none 0 0))) hBW71 hoW71
    have hpe := (h71.swap).rdp.err x.1 x.2 HxT.out
    exact ret_cell2 (cs := (Fu.vals Fu.zero (.slice none 0 0))) Tryd.results28 (by rfl) (by rfl) (Blk.box h71.head).range Tryd.underlying57 rfl info57 rfl ⟨FrGot.err (c := x.1) (p := x.2) HM.out hpe.1 hpe.2.1, h71.below⟩
  | none =>
    have HeS := Lib.hid (errV_none he g)
    by_cases h1 : 1536 ≤ n
    · have hI : (1536 : Int) ≤ (n : Int) := by omega
      have hM : readFrM s = (⟨Ad.of n4, Ad.of n6, l, 1, (n : Int), 0, 0, 0, 0, 0, (allM R).1⟩, none) := by
        rw [HR.out]; unfold endFrM; rw [he]; simp only []; rw [if_pos h1]
      have hLf : R.Left (R.s.drop R.at_) := ⟨he, HS.out.rdp.ok, rfl⟩
      have hae := (allM_left hLf).2
      have hq : allM R = bytesM R (R.s.length - R.at_) := rfl
      have hle := HS.out.rdp.ok.lim
      have HMa := Lib.hid hM
      have Hae := Lib.hid hae
      have Hq := Lib.hid hq
      clear hM hLf hae hq he h1
      have c13 : w20.cell? ⟨P, 13, none⟩ = some (.int .i64 0) := (HS.out.pull 1 rfl).cell 13
      have z13 := (HS.out.pull 1 rfl).frozen 13
      have c14 : w20.cell? ⟨P, 14, none⟩ = some (.int .i64 0) := (HS.out.pull 1 rfl).cell 14
      have z14 := (HS.out.pull 1 rfl).frozen 14
      go_upto_region 25 with (first
        | ((with_reducible refine (err_st HS.out).mono ?_)
           rintro e w60 ⟨rfl, rfl⟩
           rw [HeS.out]))
      have h21 := (((HS.out.pull 1 rfl).set 13 (.int .i64 1) (by simp [Fu.len])).set 14 (.int .i64 (n : Int)) (by simp [Fu.len])).swap
      have H21 : Hid (St w.heap.size w _ (rd b R g :: bk P 57 (Fu.vals ⟨Ad.of n4, Ad.of n6, l, 1, (n : Int), 0, 0, 0, 0, 0, []⟩ (.slice Al l.length cl)) :: bk w.heap.size 57 (Fu.vals Fu.zero (.slice none 0 0)) :: ownI 124 4 (.slice Al l.length cl) l.length (tkRow l) :: [])) := Lib.hid h21
      clear h21 c13 z13 c14 z14 HS
      generalize World.setCell _ _ _ = w21 at *
      go_wp2_with fail
      refine (left_st H21.out).mono ?_
      rintro e w22 ⟨rfl, h22⟩
      have H22 := Lib.hid h22
      clear h22 H21
      go_wp2_with fail
      refine (bytes_e H22.out (R.s.length - R.at_) (by omega)).mono ?_
      rintro e w23 ⟨c23, R23, e23, l23, rfl, g23, h23⟩
      have H23 := Lib.hid h23
      rw [← Hq.out] at e23
      have hM2 := HMa.out
      have hx := Hae.out
      rw [e23] at hM2 hx
      simp only [] at hM2 hx
      have HM := Lib.hid hM2
      have Hx := Lib.hid hx
      clear h23 H22 e23 hM2 hx
      have c20 : w23.cell? ⟨P, 20, none⟩ = some (.string ⟨([] : List UInt8).toArray⟩) := (H23.out.pull 1 rfl).cell 20
      have z20 := (H23.out.pull 1 rfl).frozen 20
      go_upto_region 28 with (fail)
      have h24 := ((H23.out.pull 1 rfl).set 20 (.string ⟨c23.toArray⟩) (by simp [Fu.len])).swap
      have H24 : Hid (St w.heap.size w _ (rd b R23 g23 :: bk P 57 (Fu.vals ⟨Ad.of n4, Ad.of n6, l, 1, (n : Int), 0, 0, 0, 0, 0, c23⟩ (.slice Al l.length cl)) :: bk w.heap.size 57 (Fu.vals Fu.zero (.slice none 0 0)) :: ownI 124 4 (.slice Al l.length cl) l.length (tkRow l) :: [])) := Lib.hid h24
      clear h24 c20 z20 H23
      generalize World.setCell _ _ _ = w24 at *
      have hx := Hx.out
      have HeT := Lib.hid (errV_none hx g23)
      have RT := Lib.hid (Blk.box (H24.out.at 1 rfl)).range
      have BT := Lib.hid (H24.out.at 2 rfl)
      clear hx
      go_wp2_with (first
        | ((with_reducible refine (err_st H24.out).mono ?_)
           rintro e w70 ⟨rfl, rfl⟩
           rw [HeT.out])
        | (with_reducible refine wpList_load_rng (ty := 57) (Fu.vals ⟨Ad.of n4, Ad.of n6, l, 1, (n : Int), 0, 0, 0, 0, 0, c23⟩ (.slice Al l.length cl)) (by with_unfolding_all rfl) RT.out Tryd.underlying57 (by with_unfolding_all rfl) (by with_unfolding_all exact info57) ?_)
        | (with_reducible refine wpList_store_blk (ty := 57) (o := 0) _ (Fu.vals ⟨Ad.of n4, Ad.of n6, l, 1, (n : Int), 0, 0, 0, 0, 0, c23⟩ (.slice Al l.length cl)) (by with_unfolding_all rfl) (by with_unfolding_all rfl) BT.out (by with_unfolding_all exact Nat.le_refl _) (by with_unfolding_all exact info57) (Fu.one _ _ rfl) (fun W71 hBW71 hoW71 => ?_)))
      have h71 := (H24.out.pull 2 rfl).sets (L' := Fu.vals ⟨Ad.of n4, Ad.of n6, l, 1, (n : Int), 0, 0, 0, 0, 0, c23⟩ (.slice Al l.length cl)) hBW71 hoW71
      have hT : W71.ownsRow 0 124 4 (.slice Al l.length cl) (l.map Tk.vals).length (l.map Tk.vals).flatten := by rw [List.length_map]; exact h71.item (k := ownI 124 4 (.slice Al l.length cl) l.length (tkRow l)) (List.mem_of_getElem? (i := 3) rfl)
      obtain ⟨A, cap, e, hA⟩ := own_sl hT (fun c hc => by obtain ⟨t, _, rfl⟩ := List.mem_map.1 hc; rfl)
      injection e with e _ _
      subst e
      have hok := FrGot.ok (A := Al) (cap := cl) HM.out (by rw [show (Fu.tags ⟨Ad.of n4, Ad.of n6, l, 1, (n : Int), 0, 0, 0, 0, 0, c23⟩) = l from rfl]; exact hA)
      rw [show (Fu.tags ⟨Ad.of n4, Ad.of n6, l, 1, (n : Int), 0, 0, 0, 0, 0, c23⟩) = l from rfl] at hok
      exact ret_cell2 (cs := Fu.vals ⟨Ad.of n4, Ad.of n6, l, 1, (n : Int), 0, 0, 0, 0, 0, c23⟩ (.slice Al l.length cl)) Tryd.results28 (by rfl) (by rfl) (Blk.box h71.head).range Tryd.underlying57 rfl info57 rfl ⟨hok, h71.below⟩
    have hI : ¬ (1536 : Int) ≤ (n : Int) := by omega
    by_cases h2 : 1500 < n
    · have hI2 : (1500 : Int) < (n : Int) := by omega
      have hM : readFrM s = (Fu.zero, some (2, (p : Int))) := by
        rw [HR.out]; unfold endFrM; rw [he]; simp only []; rw [if_neg h1, if_pos h2]
      have hf : (failM R 2 (p : Int)).err = some (2, (p : Int)) := by rw [failM_new he]
      have HM := Lib.hid hM
      have Hf := Lib.hid hf
      clear hM hf he h1 h2
      go_upto_region 28 with (first
        | ((with_reducible refine (err_st HS.out).mono ?_)
           rintro e w60 ⟨rfl, rfl⟩
           rw [HeS.out])
        | ((with_reducible refine (fail_st HS.out 2 _).mono ?_)
           rintro e w21 ⟨rfl, g21, h21⟩
           have H21 := Lib.hid h21
           clear h21))
      obtain ⟨x, hxx⟩ : ∃ x : Int × Int, x = (2, (p : Int)) := ⟨_, rfl⟩
      have HMx : Hid (readFrM s = (Fu.zero, some x)) := Lib.hid (by rw [hxx]; exact HM.out)
      have hx : (failM R 2 (p : Int)).err = some x := by rw [hxx]; exact Hf.out
      clear hxx
      have HeT := Lib.hid (errV_some hx g21)
      have HxT := Lib.hid hx
      have BT := Lib.hid (H21.out.at 2 rfl)
      clear hx
      go_wp2_with (first
        | (with_reducible refine wpList_buildA (t := 57) [] (Fu.vals Fu.zero (.slice none 0 0)) (by with_unfolding_all rfl) fu_built0 ?_)
        | ((with_reducible refine (err_st H21.out).mono ?_)
           rintro e w70 ⟨rfl, rfl⟩
           rw [HeT.out])
        | (with_reducible refine wpList_store_blk (ty := 57) (o := 0) _ (Fu.vals Fu.zero (.slice none 0 0)) (by with_unfolding_all rfl) (by with_unfolding_all rfl) BT.out (by with_unfolding_all exact Nat.le_refl _) (by with_unfolding_all exact info57) (Fu.one _ _ rfl) (fun W71 hBW71 hoW71 => ?_)))
      have h71 := (H21.out.pull 2 rfl).sets (L' := (Fu.vals Fu.zero (.slice none 0 0))) hBW71 hoW71
      have hpe := (h71.swap).rdp.err x.1 x.2 HxT.out
      exact ret_cell2 (cs := (Fu.vals Fu.zero (.slice none 0 0))) Tryd.results28 (by rfl) (by rfl) (Blk.box h71.head).range Tryd.underlying57 rfl info57 rfl ⟨FrGot.err (c := x.1) (p := x.2) HMx.out hpe.1 hpe.2.1, h71.below⟩
    have hI2 : ¬ (1500 : Int) < (n : Int) := by omega
    have hM : readFrM s = match (longM ⟨Ad.of n4, Ad.of n6, l, 0, 0, 0, 0, 0, 0, 0, []⟩ (subM R n).1).2.err with
      | some x => (Fu.zero, some x)
      | none => match (zerosM (subM R n).2).2.err with
        | some x => (Fu.zero, some x)
        | none => ((longM ⟨Ad.of n4, Ad.of n6, l, 0, 0, 0, 0, 0, 0, 0, []⟩ (subM R n).1).1, none) := by
      rw [HR.out]; unfold endFrM; rw [he]; simp only []; rw [if_neg h1, if_neg h2]
      rfl
    have HSb := Lib.hid (sub_st HS.out n (by omega) he)
    obtain ⟨S, hS⟩ : ∃ S, (subM R n).1 = S := ⟨_, rfl⟩
    obtain ⟨R2, hR2⟩ : ∃ S, (subM R n).2 = S := ⟨_, rfl⟩
    have hse : S.err = R2.err := by rw [← hS, ← hR2]; rfl
    rw [hS, hR2] at HSb hM
    obtain ⟨X, hX⟩ : ∃ X, longM ⟨Ad.of n4, Ad.of n6, l, 0, 0, 0, 0, 0, 0, 0, []⟩ S = X := ⟨_, rfl⟩
    have htg : X.1.tags = l := by
      rw [← hX]; unfold longM; simp only []; split <;> rfl
    have hhad : ∀ x, S.err = some x → X.2.err = some x := fun x h => by rw [← hX]; exact long_had h
    rw [hX] at hM
    have HMM := Lib.hid hM
    have HX := Lib.hid hX
    have Htg := Lib.hid htg
    have Hse := Lib.hid hse
    have Hhad := Lib.hid hhad
    clear hM hX htg hse hhad hS hR2 he h1 h2
    go_wp2_with (first
      | ((with_reducible refine (err_st HS.out).mono ?_)
         rintro e w60 ⟨rfl, rfl⟩
         rw [HeS.out]))
    refine HSb.out.mono ?_
    rintro e w21 ⟨q, g21, rfl, hA, hB⟩
    by_cases hs2 : R2.err = none
    · have H21 := Lib.hid ((hA hs2).pull 2 rfl).swap
      have Hs2 := Lib.hid hs2
      clear hA hB hs2 HSb HS
      go_wp2_with fail
      refine (long_st ⟨Ad.of n4, Ad.of n6, l, 0, 0, 0, 0, 0, 0, 0, []⟩ H21.out).mono ?_
      rintro e w22 ⟨g22, rfl, h22⟩
      rw [HX.out] at h22
      have H22 := Lib.hid h22
      clear h22 H21
      cases hx : X.2.err with
      | some x =>
        have hM2 := HMM.out
        rw [hx] at hM2
        simp only [] at hM2
        have HM := Lib.hid hM2
        have H23 := Lib.hid (H22.out.pull 2 rfl).tail
        clear hM2 H22
        have HeT := Lib.hid (errV_some hx g22)
        have HxT := Lib.hid hx
        have BT := Lib.hid (H23.out.at 2 rfl)
        clear hx
        go_wp2_with (first
          | (with_reducible refine wpList_buildA (t := 57) [] (Fu.vals Fu.zero (.slice none 0 0)) (by with_unfolding_all rfl) fu_built0 ?_)
          | ((with_reducible refine (err_st H23.out).mono ?_)
             rintro e w70 ⟨rfl, rfl⟩
             rw [HeT.out])
          | (with_reducible refine wpList_store_blk (ty := 57) (o := 0) _ (Fu.vals Fu.zero (.slice none 0 0)) (by with_unfolding_all rfl) (by with_unfolding_all rfl) BT.out (by with_unfolding_all exact Nat.le_refl _) (by with_unfolding_all exact info57) (Fu.one _ _ rfl) (fun W71 hBW71 hoW71 => ?_)))
        have h71 := (H23.out.pull 2 rfl).sets (L' := (Fu.vals Fu.zero (.slice none 0 0))) hBW71 hoW71
        have hpe := (h71.swap).rdp.err x.1 x.2 HxT.out
        exact ret_cell2 (cs := (Fu.vals Fu.zero (.slice none 0 0))) Tryd.results28 (by rfl) (by rfl) (Blk.box h71.head).range Tryd.underlying57 rfl info57 rfl ⟨FrGot.err (c := x.1) (p := x.2) HM.out hpe.1 hpe.2.1, h71.below⟩
      | none =>
        have hM2 := HMM.out
        rw [hx] at hM2
        simp only [] at hM2
        have HM3 := Lib.hid hM2
        have HeQ := Lib.hid (errV_none hx g22)
        clear hM2 hx
        have H23 := Lib.hid (H22.out.pull 2 rfl)
        go_wp2_with (first
          | ((with_reducible refine (err_st H22.out).mono ?_)
             rintro e w60 ⟨rfl, rfl⟩
             rw [HeQ.out]))
        refine (zeros_e H23.out).mono ?_
        rintro e w24 ⟨zb, R24, e24, rfl, g24, h24⟩
        have H24 := Lib.hid (h24.pull 1 rfl).tail
        have hM4 := HM3.out
        rw [e24] at hM4
        simp only [] at hM4
        clear h24 H23 H22 e24
        cases hx : R24.err with
        | some x =>
          rw [hx] at hM4
          simp only [] at hM4
          have HM := Lib.hid hM4
          clear hM4
          have HeT := Lib.hid (errV_some hx g24)
          have HxT := Lib.hid hx
          have BT := Lib.hid (H24.out.at 2 rfl)
          clear hx
          go_wp2_with (first
            | (with_reducible refine wpList_buildA (t := 57) [] (Fu.vals Fu.zero (.slice none 0 0)) (by with_unfolding_all rfl) fu_built0 ?_)
            | ((with_reducible refine (err_st H24.out).mono ?_)
               rintro e w70 ⟨rfl, rfl⟩
               rw [HeT.out])
            | (with_reducible refine wpList_store_blk (ty := 57) (o := 0) _ (Fu.vals Fu.zero (.slice none 0 0)) (by with_unfolding_all rfl) (by with_unfolding_all rfl) BT.out (by with_unfolding_all exact Nat.le_refl _) (by with_unfolding_all exact info57) (Fu.one _ _ rfl) (fun W71 hBW71 hoW71 => ?_)))
          have h71 := (H24.out.pull 2 rfl).sets (L' := (Fu.vals Fu.zero (.slice none 0 0))) hBW71 hoW71
          have hpe := (h71.swap).rdp.err x.1 x.2 HxT.out
          exact ret_cell2 (cs := (Fu.vals Fu.zero (.slice none 0 0))) Tryd.results28 (by rfl) (by rfl) (Blk.box h71.head).range Tryd.underlying57 rfl info57 rfl ⟨FrGot.err (c := x.1) (p := x.2) HM.out hpe.1 hpe.2.1, h71.below⟩
        | none =>
          rw [hx] at hM4
          simp only [] at hM4
          have HM := Lib.hid hM4
          clear hM4
          have HeT := Lib.hid (errV_none hx g24)
          have RT := Lib.hid (Blk.box (H24.out.at 1 rfl)).range
          have BT := Lib.hid (H24.out.at 2 rfl)
          clear hx
          go_wp2_with (first
            | ((with_reducible refine (err_st H24.out).mono ?_)
               rintro e w70 ⟨rfl, rfl⟩
               rw [HeT.out])
            | (with_reducible refine wpList_load_rng (ty := 57) (Fu.vals X.1 (.slice Al l.length cl)) (by with_unfolding_all rfl) RT.out Tryd.underlying57 (by with_unfolding_all rfl) (by with_unfolding_all exact info57) ?_)
            | (with_reducible refine wpList_store_blk (ty := 57) (o := 0) _ (Fu.vals X.1 (.slice Al l.length cl)) (by with_unfolding_all rfl) (by with_unfolding_all rfl) BT.out (by with_unfolding_all exact Nat.le_refl _) (by with_unfolding_all exact info57) (Fu.one _ _ rfl) (fun W71 hBW71 hoW71 => ?_)))
          have h71 := (H24.out.pull 2 rfl).sets (L' := Fu.vals X.1 (.slice Al l.length cl)) hBW71 hoW71
          have hT : W71.ownsRow 0 124 4 (.slice Al l.length cl) (l.map Tk.vals).length (l.map Tk.vals).flatten := by rw [List.length_map]; exact h71.item (k := ownI 124 4 (.slice Al l.length cl) l.length (tkRow l)) (List.mem_of_getElem? (i := 3) rfl)
          obtain ⟨A, cap, e, hA⟩ := own_sl hT (fun c hc => by obtain ⟨t, _, rfl⟩ := List.mem_map.1 hc; rfl)
          injection e with e _ _
          subst e
          have hok := FrGot.ok (A := Al) (cap := cl) HM.out (by rw [Htg.out]; exact hA)
          rw [Htg.out] at hok
          exact ret_cell2 (cs := Fu.vals X.1 (.slice Al l.length cl)) Tryd.results28 (by rfl) (by rfl) (Blk.box h71.head).range Tryd.underlying57 rfl info57 rfl ⟨hok, h71.below⟩
    · obtain ⟨x, hxs⟩ := Option.ne_none_iff_exists'.1 hs2
      have H21 := Lib.hid (hB hs2)
      have hx := Hhad.out x (by rw [Hse.out]; exact hxs)
      have hM2 := HMM.out
      rw [hx] at hM2
      simp only [] at hM2
      have HM := Lib.hid hM2
      have Hxx := Lib.hid hx
      clear hA hB hs2 HSb HS hxs hx hM2
      go_wp2_with fail
      refine (long_st ⟨Ad.of n4, Ad.of n6, l, 0, 0, 0, 0, 0, 0, 0, []⟩ H21.out).mono ?_
      rintro e w22 ⟨g22, rfl, h22⟩
      rw [HX.out] at h22
      have H22 := Lib.hid h22
      clear h22 H21
      have hx := Hxx.out
      have HeT := Lib.hid (errV_some hx g22)
      have HxT := Lib.hid hx
      have BT := Lib.hid (H22.out.at 2 rfl)
      clear hx
      go_wp2_with (first
        | (with_reducible refine wpList_buildA (t := 57) [] (Fu.vals Fu.zero (.slice none 0 0)) (by with_unfolding_all rfl) fu_built0 ?_)
        | ((with_reducible refine (err_st H22.out).mono ?_)
           rintro e w70 ⟨rfl, rfl⟩
           rw [HeT.out])
        | (with_reducible refine wpList_store_blk (ty := 57) (o := 0) _ (Fu.vals Fu.zero (.slice none 0 0)) (by with_unfolding_all rfl) (by with_unfolding_all rfl) BT.out (by with_unfolding_all exact Nat.le_refl _) (by with_unfolding_all exact info57) (Fu.one _ _ rfl) (fun W71 hBW71 hoW71 => ?_)))
      have h71 := (H22.out.pull 2 rfl).sets (L' := (Fu.vals Fu.zero (.slice none 0 0))) hBW71 hoW71
      have hpe := (h71.swap).rdp.err x.1 x.2 HxT.out
      exact ret_cell2 (cs := (Fu.vals Fu.zero (.slice none 0 0))) Tryd.results28 (by rfl) (by rfl) (Blk.box h71.head).range Tryd.underlying57 rfl info57 rfl ⟨FrGot.err (c := x.1) (p := x.2) HM.out hpe.1 hpe.2.1, h71.below⟩
end Go.Proofs.YteibhcocldihbaaDoor

/- mvrp.Each: all VIDs with their events. -/
import Derived.Test.YtjekdodboihfhaaDoorMv10
set_option linter.all false
namespace Go.Proofs.YtjekdodboihfhaaDoor
open Go.RowKit
/-- A VID and its event. -/
structure Pr where
  vid : Int
  ev : Int
deriving DecidableEq, Inhabited
@[reducible] def Pr.vals (p : Pr) : List Value := [.int .i64 p.vid, .int .i64 p.ev]
theorem Pr.one (p : Pr) : ∀ v ∈ p.vals, v.oneCell' = true := fun v hv => by
  rcases List.mem_cons.1 hv with rfl | hv
  · rfl
  · rw [List.mem_singleton.1 hv]; rfl
def prRow (L : List Pr) : List Value := (L.map Pr.vals).flatten
theorem prRow_snoc (L : List Pr) (p : Pr) : prRow (L ++ [p]) = prRow L ++ p.vals := by simp [prRow]
theorem prRow_len (L : List Pr) : (prRow L).length = 2 * L.length := by
  induction L with
  | nil => rfl
  | cons p L ih =>
    show (p.vals ++ prRow L).length = _
    rw [List.length_append, ih]
    show 2 + 2 * L.length = 2 * (L.length + 1)
    omega
/-- The first k of an attribute. -/
def eachK (a : Av) (k : Nat) : List Pr := (List.range k).map fun (i : Nat) => ⟨wrap64 (a.first + (i : Int)), a.evs[i]?.getD 0⟩
theorem eachK_succ (a : Av) (k : Nat) : eachK a (k + 1) = eachK a k ++ [⟨wrap64 (a.first + (k : Int)), a.evs[k]?.getD 0⟩] := by simp [eachK, List.range_succ]
theorem eachK_len (a : Av) (k : Nat) : (eachK a k).length = k := by simp [eachK]
def eachM (l : List Av) : List Pr := l.flatMap fun a => eachK a a.evs.length
theorem eachM_snoc (l : List Av) (a : Av) : eachM (l ++ [a]) = eachM l ++ eachK a a.evs.length := by simp [eachM]
theorem eachM_append (l m : List Av) : eachM (l ++ m) = eachM l ++ eachM m := by simp [eachM]
theorem eachM_take_le (l : List Av) (k : Nat) : (eachM (l.take k)).length ≤ (eachM l).length := by
  have h := eachM_append (l.take k) (l.drop k)
  rw [List.take_append_drop] at h
  rw [h, List.length_append]; omega
theorem eachM_step (l : List Av) (k : Nat) (hk : k < l.length) : eachM (l.take (k + 1)) = eachM (l.take k) ++ eachK l[k] l[k].evs.length := by
  rw [← List.take_append_getElem hk, eachM_snoc]
theorem elemPr : ElemOk Tryd.prog 40 44 2 16 := by
  have h : (Tryd.prog.info? 44).map (fun i => (i.zero, i.size, i.bytes)) = some (some (.agg #[.int .i64 0, .int .i64 0]), 2, 16) := by kernel_rfl
  obtain ⟨i, hi, hz, hs, hb⟩ := info_parts h
  exact ⟨Tryd.underlying40, i, _, hi, hz, hs, hb, rfl, by decide⟩
set_option maxRecDepth 100000 in
set_option maxHeartbeats 4000000 in
theorem each_any (R : List ARow) (n : Nat) (hlen : R.length = n) (A : Option Addr) (c : Nat) (w : World) (hn : n ≤ 9223372036854775807) (h : AvsAt w R A) (hbig : (eachM (R.map ARow.a)).length ≤ 100000) :
    Calls Tryd.prog 14 #[.slice A n c] w fun e w' => ∃ sv, e = .returned sv ∧ St w.heap.size w w' (ownI 44 2 sv (eachM (R.map ARow.a)).length (prRow (eachM (R.map ARow.a))) :: []) := by
  have H := Lib.hid h
  have Hlen := Lib.hid hlen
  have Hbig := Lib.hid hbig
  have H0 : Hid (St w.heap.size w w (ownI 44 2 (.slice none 0 0) (eachM ((R.map ARow.a).take 0)).length (prRow (eachM ((R.map ARow.a).take 0))) :: [])) := Lib.hid ((St.init w).own0 44 2)
  clear h hlen hbig
  go_enter Tryd.func14, Tryd.ntmps14
  go_wp2_with fail
  go_loopw [3, 5, 6, 7, 10] (fun s3 _ _ _ i wr => ∃ k : Nat, k ≤ n ∧ i = .int .i64 k ∧ Hid (St w.heap.size w wr (ownI 44 2 s3 (eachM ((R.map ARow.a).take k)).length (prRow (eachM ((R.map ARow.a).take k))) :: []))) (fun _ _ _ _ i _ => n - (intOf i).toNat)
  case atStart => exact ⟨0, by omega, rfl, H0⟩
  case round =>
    obtain ⟨k, hk, rfl, HS⟩ := hrel
    clear H0
    by_cases hlt : k < n
    · have hkx : k < R.length := by rw [Hlen.out]; exact hlt
      obtain ⟨g, o, rfl, hg, hc⟩ := H.out.row (by rw [List.length_map]; omega)
      have h1 := hc k (by rw [List.length_map]; exact hkx)
      have e1 : (R.map ARow.vals)[k]'(by rw [List.length_map]; exact hkx) = R[k].vals := by simp
      rw [e1] at h1
      obtain ⟨A1, cap1, hsv, hcap1, hs1⟩ := H.out.evs R[k] (List.getElem_mem hkx)
      obtain ⟨eb, eo, hA1, hev⟩ := evs_where (w := w) (A := A1) (es := R[k].a.evs) (fun U hU => (hs1.below hU (Nat.le_refl _)).more hU.size)
      have hst := eachM_step (R.map ARow.a) k (by rw [List.length_map]; exact hkx)
      have ea : (R.map ARow.a)[k]'(by rw [List.length_map]; exact hkx) = R[k].a := by simp
      rw [ea] at hst
      have hle := eachM_take_le (R.map ARow.a) (k + 1)
      rw [hst, List.length_append, eachK_len] at hle
      have hbg := Hbig.out
      have H1 := Lib.hid (rangeAt_below h1 HS.out.below hg)
      have lg1 := Nat.lt_of_lt_of_le hg HS.out.below.size
      have Hst := Lib.hid hst
      have Hev := Lib.hid hev
      clear hc e1 h1 hs1 hst ea hev
      generalize R[k] = r at *
      obtain ⟨⟨al, fi, es⟩, sv⟩ := r
      simp only at hsv hcap1 hA1 Hev hle Hst
      subst hsv
      have O1 : Hid (∀ v ∈ ARow.vals ⟨⟨al, fi, es⟩, .slice A1 es.length cap1⟩, v.oneCell' = true) := Lib.hid (Av.one ⟨al, fi, es⟩ (.slice A1 es.length cap1) rfl)
      obtain ⟨E1, hE1⟩ : ∃ E, eachM ((R.map ARow.a).take (k + 1)) = E := ⟨_, rfl⟩
      rw [hE1] at Hst
      have HE1 := Lib.hid hE1
      clear hE1
      generalize eachM ((R.map ARow.a).take k) = E0 at *
      go_upto_region 5 with (first
        | (with_reducible refine wpList_load_rng (ty := 38) (ARow.vals ⟨⟨al, fi, es⟩, .slice A1 es.length cap1⟩) (by with_unfolding_all rfl) H1.out Tryd.underlying38 (by with_unfolding_all rfl) (by with_unfolding_all exact info38) ?_)
        | ((with_reducible refine wpList_store_blk (ty := 38) (b := ?b2) (o := ?o2) (t := 38) zAv (ARow.vals ⟨⟨al, fi, es⟩, .slice A1 es.length cap1⟩) ?hx2 ?hy2 ?hB2 ?ho2 ?hi2 ?h12 ?hk2)
           case hx2 => rfl
           case hy2 => rfl
           case hB2 => exact Blk.new wr zAv 38
           case ho2 => exact Nat.le_refl _
           case hi2 => exact info38
           case h12 => exact O1.out
           intro W4 hBW4 hoW4))
      have H4 := Lib.hid ((HS.out.alloc zAv 38).sets (L' := ARow.vals ⟨⟨al, fi, es⟩, .slice A1 es.length cap1⟩) hBW4 hoW4)
      clear hBW4 hoW4 HS H1
      generalize wr.heap.size = P at *
      have c2 : W4.cell? ⟨P, 2, none⟩ = some (.slice A1 es.length cap1) := (Blk.box (H4.out.at 0 rfl)).cell 2
      go_upto_region 6 with (fail)
      obtain ⟨a, ha⟩ : ∃ a : Av, (⟨al, fi, es⟩ : Av) = a := ⟨_, rfl⟩
      have Hsucc : Hid (∀ j, eachK a (j + 1) = eachK a j ++ [⟨wrap64 (fi + (j : Int)), es[j]?.getD 0⟩]) := Lib.hid (fun j => by rw [← ha]; exact eachK_succ _ j)
      have Hstep : Hid (E1 = E0 ++ eachK a es.length) := Lib.hid (by rw [← ha]; exact Hst.out)
      have Hkl : Hid (∀ j, (eachK a j).length = j) := Lib.hid (fun j => eachK_len a j)
      have H5 : Hid (St w.heap.size w W4 (bk P 38 (ARow.vals ⟨⟨al, fi, es⟩, .slice A1 es.length cap1⟩) :: ownI 44 2 u3 (E0 ++ eachK a 0).length (prRow (E0 ++ eachK a 0)) :: [])) := Lib.hid (by
        have e0 : eachK a 0 = [] := rfl
        rw [e0, List.append_nil]; exact H4.out)
      clear H4 Hst ha
      go_loopw [3, 6, 7, 17] (fun s3 _ _ i wr => ∃ j : Nat, j ≤ es.length ∧ i = .int .i64 j ∧ Hid (St w.heap.size w wr (bk P 38 (ARow.vals ⟨⟨al, fi, es⟩, .slice A1 es.length cap1⟩) :: ownI 44 2 s3 (E0 ++ eachK a j).length (prRow (E0 ++ eachK a j)) :: []))) (fun _ _ _ i _ => es.length - (intOf i).toNat)
      case atStart => exact ⟨0, by omega, rfl, H5⟩
      case round =>
        obtain ⟨j, hj, rfl, HI⟩ := hrel
        clear H5 c2
        by_cases hjl : j < es.length
        · have hAe := hA1 (by omega)
          subst hAe
          have hcell := (Hev.out _ HI.out.below j hjl).2
          have c1 : wr.cell? ⟨P, 1, none⟩ = some (.int .i64 fi) := (Blk.box (HI.out.at 0 rfl)).cell 1
          have hsu := Hsucc.out j
          have hll : (E0 ++ eachK a j).length ≤ 100000 := by rw [List.length_append, Hkl.out]; omega
          have hLs : E0 ++ eachK a (j + 1) = (E0 ++ eachK a j) ++ [⟨wrap64 (fi + (j : Int)), es[j]?.getD 0⟩] := by rw [hsu, List.append_assoc]
          obtain ⟨L, hL⟩ : ∃ L, E0 ++ eachK a j = L := ⟨_, rfl⟩
          rw [hL] at HI hll hLs
          have HLs := Lib.hid hLs
          clear hsu hLs hL
          generalize es[j]?.getD 0 = d at *
          obtain ⟨Al, cl, rfl⟩ := own_shape (HI.out.item (k := ownI 44 2 u3 L.length (prRow L)) (List.mem_of_getElem? (i := 1) rfl))
          have HOWN := Lib.hid (HI.out.pull 1 rfl)
          go_wp2_with (first
            | (at_builtin; refine wpList_append_st (t := 40) (e := 44) (size := 2) (bytes := 16) (n := L.length) (m := 1) (c := 1) (prRow L) (Pr.vals ⟨wrap64 (fi + (j : Int)), d⟩) elemPr (HOWN.out.ext ((Below.refl _ _).alloc (Nat.le_refl _) _)) (by with_unfolding_all rfl) (by with_unfolding_all rfl) (World.news_of_block (heap_alloc_new _ _)) rfl (Pr.one _) (by decide) (by unfold maxLen; omega) (by omega) (fun gT capT W13 H13 => ?_)))
          have h14 : St w.heap.size w W13 (bk P 38 (ARow.vals ⟨⟨al, fi, es⟩, .slice (some ⟨eb, eo, none⟩) es.length cap1⟩) :: ownI 44 2 (.slice (some ⟨gT, 0, none⟩) (L.length + 1) capT) (E0 ++ eachK a (j + 1)).length (prRow (E0 ++ eachK a (j + 1))) :: []) := by
            rw [HLs.out, prRow_snoc, List.length_append]
            exact H13.pull 1 rfl
          have H14 := Lib.hid h14
          clear h14 H13
          go_roundw
          case rel => exact ⟨j + 1, by omega, by go_num, H14⟩
          case measure => simp [intOf]; omega
        · obtain rfl : j = es.length := by omega
          have H6 : Hid (St w.heap.size w wr (ownI 44 2 u3 E1.length (prRow E1) :: [])) := Lib.hid (by rw [Hstep.out]; exact HI.out.tail)
          go_wp2_with fail
          go_roundw
          case rel => exact ⟨k + 1, by omega, by go_num, by rw [HE1.out]; exact H6⟩
          case measure => simp [intOf]; omega
    · obtain rfl : k = n := by omega
      have ht : (R.map ARow.a).take k = R.map ARow.a := List.take_of_length_le (by rw [List.length_map, Hlen.out]; exact Nat.le_refl _)
      rw [ht] at HS
      go_wp2_with fail
      go_ret
      exact ⟨_, rfl, HS.out⟩
end Go.Proofs.YtjekdodboihfhaaDoor

/- slices.Grow, slices.Concat of attributes and of pairs. (Printed by tools/mkmv14.py, turned from XTlv6.) -/
import Derived.Test.YtjekdodboihfhaaMv13
import Derived.Test.YtjekdodboihfhaaApp0
import Derived.Lib.AppendZerosOnto
set_option linter.all false
namespace Go.Proofs.Ytjekdodboihfhaa
open Go.RowKit Go.ChangeShapes Go.WideShapes
theorem mv_own_sl {w : World} {t size : Nat} {v : Value} {C : List (List Value)} (h : w.ownsRow 0 t size v C.length C.flatten) (hC : ∀ c ∈ C, c.length = size) : ∃ A cap, v = .slice A C.length cap ∧ SlRow w w.heap.size size A C := by
  obtain ⟨A, cap, hv, _, hr⟩ := own_row h hC rfl
  refine ⟨A, cap, hv, fun hn => ?_⟩
  obtain ⟨g, rfl, _, hg, hk⟩ := hr hn
  exact ⟨g, 0, rfl, hg, fun k hk' => by rw [Nat.zero_add]; exact hk k hk'⟩
theorem mv_sl_ext {w W : World} {s : Nat} {A : Option Addr} {C : List (List Value)} (h : SlRow w w.heap.size s A C) (hb : Below w.heap.size w W) : SlRow W W.heap.size s A C := (h.below hb (Nat.le_refl _)).more hb.size
theorem avC_len (L : List ARow) : ∀ c ∈ L.map ARow.vals, c.length = 3 := fun c hc => by obtain ⟨t, _, rfl⟩ := List.mem_map.1 hc; rfl
theorem prC_len (L : List Pr) : ∀ c ∈ L.map Pr.vals, c.length = 2 := fun c hc => by obtain ⟨t, _, rfl⟩ := List.mem_map.1 hc; rfl
theorem avRow_one (L : List ARow) (h : ∀ r ∈ L, ∀ v ∈ r.vals, v.oneCell' = true) : ∀ v ∈ avRow L, v.oneCell' = true := fun v hv => by
  obtain ⟨c, hc, hv⟩ := List.mem_flatten.1 hv
  obtain ⟨t, ht, rfl⟩ := List.mem_map.1 hc
  exact h t ht v hv
theorem prRow_one (L : List Pr) : ∀ v ∈ prRow L, v.oneCell' = true := fun v hv => by
  obtain ⟨c, hc, hv⟩ := List.mem_flatten.1 hv
  obtain ⟨t, _, rfl⟩ := List.mem_map.1 hc
  exact Pr.one t v hv
def szTo (a b k : Nat) : Nat := if k = 0 then 0 else if k = 1 then a else a + b
set_option maxRecDepth 100000 in
set_option maxHeartbeats 2000000 in
theorem growP_any (n : Nat) (hn : n ≤ 1000000) (w : World) :
    Calls Try.prog 60 #[.slice none 0 0, .int .i64 (n : Int)] w fun e w' => ∃ A cap, e = .returned (.slice A 0 cap) ∧ St w.heap.size w w' [ownI 58 2 (.slice A 0 cap) 0 []] := by
  by_cases h0 : n = 0
  · subst h0
    go_enter Try.func60, Try.ntmps60
    go_wp2_with fail
    go_ret
    exact ⟨none, 0, rfl, (St.init w).own0 _ _⟩
  · obtain ⟨ht, i0, z, hi0, hz0, hsz, hby, hzs, hpos⟩ := elemPr
    have hfit : Builtin.nextslicecap (0 + n) 0 * i0.bytes ≤ 281474976710656 := growslice_fits (by omega) (by rw [hby]; omega)
    have hrz : ∀ ty, (Builtin.append_ #[56, 3] ty #[.slice none 0 0, .int .i64 (n : Int)]).run Try.prog w = _ := fun ty =>
      Lib.run_append_grow_zeros w 56 3 ty 58 i0 z .i64 .i64 ht Try.underlying3 hi0 hz0 none 0 0 [] (run_firstCells_none w.drew _ _ _ _) n (by omega) (by omega) (by omega) (by omega) (by rw [hby]; omega) hfit
    simp only [Nat.zero_add] at hrz
    have hGn : n ≤ grownCap w n 0 58 := grownCap_ge w _ _ _
    have hG63 : grownCap w n 0 58 ≤ maxLen := grownCap_le_maxLen w n 0 58 (by unfold maxLen; omega)
    generalize grownCap w n 0 58 = G at *
    have hGi : G ≤ 9223372036854775807 := by unfold maxLen at hG63; omega
    obtain ⟨Z, hZ⟩ : ∃ Z, z.cells = Z := ⟨_, rfl⟩
    rw [hZ] at hzs
    simp only [hZ] at hrz
    clear hZ
    have HR := Lib.hid hrz
    have HG := Lib.hid hG63
    clear hrz hfit hG63
    go_enter Try.func60, Try.ntmps60
    go_wp2_with (at_builtin; refine Lib.wpList_append_run _ rfl _ _ _ _ rfl _ _ rfl rfl _ _ (HR.out _) ?_)
    all_goals
      go_ret
      refine ⟨some ⟨w.heap.size, 0, none⟩, G, rfl, ?_⟩
      have h1 := (St.init w).drew
      refine h1.add ((Below.refl _ _).alloc (Nat.le_refl _) _) (k := ownI 58 2 (.slice (some ⟨w.heap.size, 0, none⟩) 0 G) 0 []) ⟨rfl, .inr ⟨w.heap.size, G, _, rfl, Nat.zero_le _, heap_alloc_new _ _, Nat.zero_le _, HG.out, ?_, rfl⟩⟩ (fun g hg => ?_)
      · simp only [Array.size_append, size_zeroCells, hzs, List.size_toArray, List.length_nil]
        omega
      · have : g ∈ [w.heap.size] := hg
        rw [List.mem_singleton.1 this]; exact Nat.le_refl _
set_option maxRecDepth 100000 in
set_option maxHeartbeats 4000000 in
theorem concatP_any (L M : List Pr) (A A' : Option Addr) (cA cA' G : Nat) (w : World) (hl : L.length ≤ 100000) (hm : M.length ≤ 100000) (hG : G < w.heap.size) (h0 : w.cell? ⟨G, 0, none⟩ = some (.slice A L.length cA)) (h1 : w.cell? ⟨G, 1, none⟩ = some (.slice A' M.length cA'))
    (hr : SlRow w w.heap.size 2 A (L.map Pr.vals)) (hr' : SlRow w w.heap.size 2 A' (M.map Pr.vals)) :
    Calls Try.prog 36 #[.slice (some ⟨G, 0, none⟩) 2 2] w fun e w' => ∃ A2 c2, e = .returned (.slice A2 (L ++ M).length c2) ∧ SlRow w' w'.heap.size 2 A2 ((L ++ M).map Pr.vals) ∧ Below w.heap.size w w' := by
  have Hr := Lib.hid hr
  have Hr' := Lib.hid hr'
  have hxs := prC_len L
  have hys := prC_len M
  clear hr hr'
  go_enter Try.func36, Try.ntmps36
  go_wp2_with fail
  go_loopw [3, 5, 11] (fun s3 _ i wr => ∃ k : Nat, k ≤ 2 ∧ i = .int .i64 k ∧ s3 = .int .i64 (szTo L.length M.length k : Nat) ∧ Hid (wr = w)) (fun _ _ i _ => 2 - (intOf i).toNat)
  case atStart => exact ⟨0, by omega, rfl, rfl, Lib.hid rfl⟩
  case round =>
    obtain ⟨k, hk, rfl, rfl, Hw⟩ := hrel
    have c0 : wr.cell? ⟨G, 0, none⟩ = some (.slice A L.length cA) := by rw [Hw.out]; exact h0
    have c1 : wr.cell? ⟨G, 1, none⟩ = some (.slice A' M.length cA') := by rw [Hw.out]; exact h1
    have hk3 : k = 0 ∨ k = 1 ∨ k = 2 := by omega
    rcases hk3 with rfl | rfl | rfl
    · have e0 : szTo L.length M.length 0 = 0 := rfl
      have e1 : szTo L.length M.length 1 = L.length := rfl
      go_wp2_with fail
      go_roundw
      case rel => exact ⟨1, by omega, rfl, by rw [e1], Hw⟩
      case measure => simp [intOf]
    · have e1 : szTo L.length M.length 1 = L.length := rfl
      have e2 : szTo L.length M.length 2 = L.length + M.length := rfl
      go_wp2_with fail
      go_roundw
      case rel => exact ⟨2, by omega, rfl, by rw [e2]; simp, Hw⟩
      case measure => simp [intOf]
    · have e2 : szTo L.length M.length 2 = L.length + M.length := rfl
      rw [e2]
      clear e2
      have HGr := Lib.hid (growP_any (L.length + M.length) (by omega) wr)
      go_wp2_with fail
      refine HGr.out.mono ?_
      rintro e w1 ⟨A0, c0', rfl, h1s⟩
      rw [Hw.out] at h1s
      have H1 := Lib.hid h1s
      clear h1s HGr c0 c1
      go_wp2_with fail
      go_loopw [6, 8, 27] (fun s6 _ i wx => ∃ (k : Nat) (A2 : Option Addr) (c2 : Nat), k ≤ 2 ∧ i = .int .i64 k ∧ s6 = .slice A2 (szTo L.length M.length k) c2 ∧ Hid (St w.heap.size w wx [ownI 58 2 (.slice A2 (szTo L.length M.length k) c2) (szTo L.length M.length k) (if k = 0 then [] else if k = 1 then prRow L else prRow L ++ prRow M)])) (fun _ _ i _ => 2 - (intOf i).toNat)
      case atStart => exact ⟨0, A0, c0', by omega, rfl, rfl, H1⟩
      case round =>
        obtain ⟨k, A2, c2, hk, rfl, rfl, HS⟩ := hrel
        have hk3 : k = 0 ∨ k = 1 ∨ k = 2 := by omega
        rcases hk3 with rfl | rfl | rfl
        · have e0 : szTo L.length M.length 0 = 0 := rfl
          have HS : Hid (St w.heap.size w _ [ownI 58 2 (.slice A2 0 c2) 0 []]) := HS
          have d0 := laterc h0 HS.out.below hG
          have Hrow := Lib.hid (mv_sl_ext Hr.out HS.out.below)
          go_wp2_with (at_builtin; refine wpList_append_st0 (t := 56) (e := 58) (size := 2) (bytes := 16) (n := 0) (m := L.length) (c := cA) [] (prRow L) elemPr HS.out (by with_unfolding_all rfl) (by with_unfolding_all rfl) (fun h => sl_from Hrow.out (by decide) hxs (by rw [List.length_map]; exact h)) (by rw [show (prRow L).length = (L.map Pr.vals).length * 2 from flat_len hxs, List.length_map]) (prRow_one L) (by unfold maxLen; omega) (by omega) (fun A3 c3 W3 H3 => ?_))
          have H3' : Hid (St w.heap.size w W3 [ownI 58 2 (.slice A3 (szTo L.length M.length 1) c3) (szTo L.length M.length 1) (if (1 : Nat) = 0 then [] else if (1 : Nat) = 1 then prRow L else prRow L ++ prRow M)]) := Lib.hid (by simpa [szTo] using H3)
          clear H3
          go_roundw
          case rel => exact ⟨1, A3, c3, by omega, rfl, by simp [szTo], H3'⟩
          case measure => simp [intOf]
        · have e1 : szTo L.length M.length 1 = L.length := rfl
          have HS : Hid (St w.heap.size w _ [ownI 58 2 (.slice A2 L.length c2) L.length (prRow L)]) := HS
          have d1 := laterc h1 HS.out.below hG
          have Hrow := Lib.hid (mv_sl_ext Hr'.out HS.out.below)
          go_wp2_with (at_builtin; refine wpList_append_st0 (t := 56) (e := 58) (size := 2) (bytes := 16) (n := L.length) (m := M.length) (c := cA') (prRow L) (prRow M) elemPr HS.out (by with_unfolding_all rfl) (by with_unfolding_all rfl) (fun h => sl_from Hrow.out (by decide) hys (by rw [List.length_map]; exact h)) (by rw [show (prRow M).length = (M.map Pr.vals).length * 2 from flat_len hys, List.length_map]) (prRow_one M) (by unfold maxLen; omega) (by omega) (fun A3 c3 W3 H3 => ?_))
          have H3' : Hid (St w.heap.size w W3 [ownI 58 2 (.slice A3 (szTo L.length M.length 2) c3) (szTo L.length M.length 2) (if (2 : Nat) = 0 then [] else if (2 : Nat) = 1 then prRow L else prRow L ++ prRow M)]) := Lib.hid (by simpa [szTo] using H3)
          clear H3
          go_roundw
          case rel => exact ⟨2, A3, c3, by omega, rfl, by simp [szTo], H3'⟩
          case measure => simp [intOf]
        · have e2 : szTo L.length M.length 2 = L.length + M.length := rfl
          have HS : Hid (St w.heap.size w _ [ownI 58 2 (.slice A2 (L.length + M.length) c2) (L.length + M.length) (prRow L ++ prRow M)]) := HS
          go_wp2_with fail
          go_ret
          have hC : ((L ++ M).map Pr.vals).flatten = prRow L ++ prRow M := by simp [prRow]
          have hCl : ((L ++ M).map Pr.vals).length = L.length + M.length := by simp
          have ho : wr.ownsRow 0 58 2 (.slice A2 (L.length + M.length) c2) ((L ++ M).map Pr.vals).length ((L ++ M).map Pr.vals).flatten := by
            rw [hC, hCl]; exact HS.out.head
          obtain ⟨A5, c5, e5, h5⟩ := mv_own_sl ho (prC_len (L ++ M))
          injection e5 with e5 _ _
          subst e5
          exact ⟨A2, c2, by rw [List.length_append, ← e2]; rfl, h5, HS.out.below⟩
set_option maxRecDepth 100000 in
set_option maxHeartbeats 2000000 in
theorem growA_any (n : Nat) (hn : n ≤ 1000000) (w : World) :
    Calls Try.prog 59 #[.slice none 0 0, .int .i64 (n : Int)] w fun e w' => ∃ A cap, e = .returned (.slice A 0 cap) ∧ St w.heap.size w w' [ownI 50 3 (.slice A 0 cap) 0 []] := by
  by_cases h0 : n = 0
  · subst h0
    go_enter Try.func59, Try.ntmps59
    go_wp2_with fail
    go_ret
    exact ⟨none, 0, rfl, (St.init w).own0 _ _⟩
  · obtain ⟨ht, i0, z, hi0, hz0, hsz, hby, hzs, hpos⟩ := elemAv
    have hfit : Builtin.nextslicecap (0 + n) 0 * i0.bytes ≤ 281474976710656 := growslice_fits (by omega) (by rw [hby]; omega)
    have hrz : ∀ ty, (Builtin.append_ #[44, 3] ty #[.slice none 0 0, .int .i64 (n : Int)]).run Try.prog w = _ := fun ty =>
      Lib.run_append_grow_zeros w 44 3 ty 50 i0 z .i64 .i64 ht Try.underlying3 hi0 hz0 none 0 0 [] (run_firstCells_none w.drew _ _ _ _) n (by omega) (by omega) (by omega) (by omega) (by rw [hby]; omega) hfit
    simp only [Nat.zero_add] at hrz
    have hGn : n ≤ grownCap w n 0 50 := grownCap_ge w _ _ _
    have hG63 : grownCap w n 0 50 ≤ maxLen := grownCap_le_maxLen w n 0 50 (by unfold maxLen; omega)
    generalize grownCap w n 0 50 = G at *
    have hGi : G ≤ 9223372036854775807 := by unfold maxLen at hG63; omega
    obtain ⟨Z, hZ⟩ : ∃ Z, z.cells = Z := ⟨_, rfl⟩
    rw [hZ] at hzs
    simp only [hZ] at hrz
    clear hZ
    have HR := Lib.hid hrz
    have HG := Lib.hid hG63
    clear hrz hfit hG63
    go_enter Try.func59, Try.ntmps59
    go_wp2_with (at_builtin; refine Lib.wpList_append_run _ rfl _ _ _ _ rfl _ _ rfl rfl _ _ (HR.out _) ?_)
    all_goals
      go_ret
      refine ⟨some ⟨w.heap.size, 0, none⟩, G, rfl, ?_⟩
      have h1 := (St.init w).drew
      refine h1.add ((Below.refl _ _).alloc (Nat.le_refl _) _) (k := ownI 50 3 (.slice (some ⟨w.heap.size, 0, none⟩) 0 G) 0 []) ⟨rfl, .inr ⟨w.heap.size, G, _, rfl, Nat.zero_le _, heap_alloc_new _ _, Nat.zero_le _, HG.out, ?_, rfl⟩⟩ (fun g hg => ?_)
      · simp only [Array.size_append, size_zeroCells, hzs, List.size_toArray, List.length_nil]
        omega
      · have : g ∈ [w.heap.size] := hg
        rw [List.mem_singleton.1 this]; exact Nat.le_refl _
set_option maxRecDepth 100000 in
set_option maxHeartbeats 4000000 in
theorem concatA_any (L M : List ARow) (A A' : Option Addr) (cA cA' G : Nat) (w : World) (hl : L.length ≤ 100000) (hm : M.length ≤ 100000) (hG : G < w.heap.size) (h0 : w.cell? ⟨G, 0, none⟩ = some (.slice A L.length cA)) (h1 : w.cell? ⟨G, 1, none⟩ = some (.slice A' M.length cA'))
    (hoL : Hid (∀ r ∈ L, ∀ v ∈ r.vals, v.oneCell' = true)) (hoM : Hid (∀ r ∈ M, ∀ v ∈ r.vals, v.oneCell' = true)) (hr : SlRow w w.heap.size 3 A (L.map ARow.vals)) (hr' : SlRow w w.heap.size 3 A' (M.map ARow.vals)) :
    Calls Try.prog 35 #[.slice (some ⟨G, 0, none⟩) 2 2] w fun e w' => ∃ A2 c2, e = .returned (.slice A2 (L ++ M).length c2) ∧ SlRow w' w'.heap.size 3 A2 ((L ++ M).map ARow.vals) ∧ Below w.heap.size w w' := by
  have Hr := Lib.hid hr
  have Hr' := Lib.hid hr'
  have hxs := avC_len L
  have hys := avC_len M
  clear hr hr'
  go_enter Try.func35, Try.ntmps35
  go_wp2_with fail
  go_loopw [3, 5, 11] (fun s3 _ i wr => ∃ k : Nat, k ≤ 2 ∧ i = .int .i64 k ∧ s3 = .int .i64 (szTo L.length M.length k : Nat) ∧ Hid (wr = w)) (fun _ _ i _ => 2 - (intOf i).toNat)
  case atStart => exact ⟨0, by omega, rfl, rfl, Lib.hid rfl⟩
  case round =>
    obtain ⟨k, hk, rfl, rfl, Hw⟩ := hrel
    have c0 : wr.cell? ⟨G, 0, none⟩ = some (.slice A L.length cA) := by rw [Hw.out]; exact h0
    have c1 : wr.cell? ⟨G, 1, none⟩ = some (.slice A' M.length cA') := by rw [Hw.out]; exact h1
    have hk3 : k = 0 ∨ k = 1 ∨ k = 2 := by omega
    rcases hk3 with rfl | rfl | rfl
    · have e0 : szTo L.length M.length 0 = 0 := rfl
      have e1 : szTo L.length M.length 1 = L.length := rfl
      go_wp2_with fail
      go_roundw
      case rel => exact ⟨1, by omega, rfl, by rw [e1], Hw⟩
      case measure => simp [intOf]
    · have e1 : szTo L.length M.length 1 = L.length := rfl
      have e2 : szTo L.length M.length 2 = L.length + M.length := rfl
      go_wp2_with fail
      go_roundw
      case rel => exact ⟨2, by omega, rfl, by rw [e2]; simp, Hw⟩
      case measure => simp [intOf]
    · have e2 : szTo L.length M.length 2 = L.length + M.length := rfl
      rw [e2]
      clear e2
      have HGr := Lib.hid (growA_any (L.length + M.length) (by omega) wr)
      go_wp2_with fail
      refine HGr.out.mono ?_
      rintro e w1 ⟨A0, c0', rfl, h1s⟩
      rw [Hw.out] at h1s
      have H1 := Lib.hid h1s
      clear h1s HGr c0 c1
      go_wp2_with fail
      go_loopw [6, 8, 27] (fun s6 _ i wx => ∃ (k : Nat) (A2 : Option Addr) (c2 : Nat), k ≤ 2 ∧ i = .int .i64 k ∧ s6 = .slice A2 (szTo L.length M.length k) c2 ∧ Hid (St w.heap.size w wx [ownI 50 3 (.slice A2 (szTo L.length M.length k) c2) (szTo L.length M.length k) (if k = 0 then [] else if k = 1 then avRow L else avRow L ++ avRow M)])) (fun _ _ i _ => 2 - (intOf i).toNat)
      case atStart => exact ⟨0, A0, c0', by omega, rfl, rfl, H1⟩
      case round =>
        obtain ⟨k, A2, c2, hk, rfl, rfl, HS⟩ := hrel
        have hk3 : k = 0 ∨ k = 1 ∨ k = 2 := by omega
        rcases hk3 with rfl | rfl | rfl
        · have e0 : szTo L.length M.length 0 = 0 := rfl
          have HS : Hid (St w.heap.size w _ [ownI 50 3 (.slice A2 0 c2) 0 []]) := HS
          have d0 := laterc h0 HS.out.below hG
          have Hrow := Lib.hid (mv_sl_ext Hr.out HS.out.below)
          go_wp2_with (at_builtin; refine wpList_append_st0 (t := 44) (e := 50) (size := 3) (bytes := 40) (n := 0) (m := L.length) (c := cA) [] (avRow L) elemAv HS.out (by with_unfolding_all rfl) (by with_unfolding_all rfl) (fun h => sl_from Hrow.out (by decide) hxs (by rw [List.length_map]; exact h)) (by rw [show (avRow L).length = (L.map ARow.vals).length * 3 from flat_len hxs, List.length_map]) (avRow_one L hoL.out) (by unfold maxLen; omega) (by omega) (fun A3 c3 W3 H3 => ?_))
          have H3' : Hid (St w.heap.size w W3 [ownI 50 3 (.slice A3 (szTo L.length M.length 1) c3) (szTo L.length M.length 1) (if (1 : Nat) = 0 then [] else if (1 : Nat) = 1 then avRow L else avRow L ++ avRow M)]) := Lib.hid (by simpa [szTo] using H3)
          clear H3
          go_roundw
          case rel => exact ⟨1, A3, c3, by omega, rfl, by simp [szTo], H3'⟩
          case measure => simp [intOf]
        · have e1 : szTo L.length M.length 1 = L.length := rfl
          have HS : Hid (St w.heap.size w _ [ownI 50 3 (.slice A2 L.length c2) L.length (avRow L)]) := HS
          have d1 := laterc h1 HS.out.below hG
          have Hrow := Lib.hid (mv_sl_ext Hr'.out HS.out.below)
          go_wp2_with (at_builtin; refine wpList_append_st0 (t := 44) (e := 50) (size := 3) (bytes := 40) (n := L.length) (m := M.length) (c := cA') (avRow L) (avRow M) elemAv HS.out (by with_unfolding_all rfl) (by with_unfolding_all rfl) (fun h => sl_from Hrow.out (by decide) hys (by rw [List.length_map]; exact h)) (by rw [show (avRow M).length = (M.map ARow.vals).length * 3 from flat_len hys, List.length_map]) (avRow_one M hoM.out) (by unfold maxLen; omega) (by omega) (fun A3 c3 W3 H3 => ?_))
          have H3' : Hid (St w.heap.size w W3 [ownI 50 3 (.slice A3 (szTo L.length M.length 2) c3) (szTo L.length M.length 2) (if (2 : Nat) = 0 then [] else if (2 : Nat) = 1 then avRow L else avRow L ++ avRow M)]) := Lib.hid (by simpa [szTo] using H3)
          clear H3
          go_roundw
          case rel => exact ⟨2, A3, c3, by omega, rfl, by simp [szTo], H3'⟩
          case measure => simp [intOf]
        · have e2 : szTo L.length M.length 2 = L.length + M.length := rfl
          have HS : Hid (St w.heap.size w _ [ownI 50 3 (.slice A2 (L.length + M.length) c2) (L.length + M.length) (avRow L ++ avRow M)]) := HS
          go_wp2_with fail
          go_ret
          have hC : ((L ++ M).map ARow.vals).flatten = avRow L ++ avRow M := by simp [avRow]
          have hCl : ((L ++ M).map ARow.vals).length = L.length + M.length := by simp
          have ho : wr.ownsRow 0 50 3 (.slice A2 (L.length + M.length) c2) ((L ++ M).map ARow.vals).length ((L ++ M).map ARow.vals).flatten := by
            rw [hC, hCl]; exact HS.out.head
          obtain ⟨A5, c5, e5, h5⟩ := mv_own_sl ho (avC_len (L ++ M))
          injection e5 with e5 _ _
          subst e5
          exact ⟨A2, c2, by rw [List.length_append, ← e2]; rfl, h5, HS.out.below⟩
end Go.Proofs.Ytjekdodboihfhaa

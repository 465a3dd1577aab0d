/- slices.Grow, slices.Concat on records. -/
import Derived.Test.YtidcjbanhdpkkaaTlv4
import Derived.Test.YtidcjbanhdpkkaaApp0
import Derived.Lib.AppendZerosOnto
namespace Go.Proofs.Ytidcjbanhdpkkaa
open Go.RowKit Go.ChangeShapes Go.WideShapes Go.Deep
set_option maxRecDepth 100000 in
set_option maxHeartbeats 2000000 in
theorem growT_any (n : Nat) (hn : n ≤ 1000000) (w : World) :
    Calls Try.prog 42 #[.slice none 0 0, .int .i64 (n : Int)] w fun e w' => ∃ A cap, e = .returned (.slice A 0 cap) ∧ St w.heap.size w w' [ownI 41 2 (.slice A 0 cap) 0 []] := by
  by_cases h0 : n = 0
  · subst h0
    go_enter Try.func42, Try.ntmps42
    go_wp2_with fail
    go_ret
    exact ⟨none, 0, rfl, (St.init w).own0 _ _⟩
  · obtain ⟨ht, i0, z, hi0, hz0, hsz, hby, hzs, hpos⟩ := elemTlv
    have hfit : Builtin.nextslicecap (0 + n) 0 * i0.bytes ≤ 281474976710656 := growslice_fits (by omega) (by rw [hby]; omega)
    have hrz : ∀ ty, (Builtin.append_ #[30, 3] ty #[.slice none 0 0, .int .i64 (n : Int)]).run Try.prog w = _ := fun ty =>
      Lib.run_append_grow_zeros w 30 3 ty 41 i0 z .i64 .i64 ht Try.underlying3 hi0 hz0 none 0 0 [] (run_firstCells_none w.drew _ _ _ _) n (by omega) (by omega) (by omega) (by omega) (by rw [hby]; omega) hfit
    simp only [Nat.zero_add] at hrz
    have hGn : n ≤ grownCap w n 0 41 := grownCap_ge w _ _ _
    have hG63 : grownCap w n 0 41 ≤ maxLen := grownCap_le_maxLen w n 0 41 (by unfold maxLen; omega)
    generalize grownCap w n 0 41 = G at *
    have hGi : G ≤ 9223372036854775807 := by unfold maxLen at hG63; omega
    obtain ⟨Z, hZ⟩ : ∃ Z, z.cells = Z := ⟨_, rfl⟩
    rw [hZ] at hzs
    simp only [hZ] at hrz
    clear hZ
    have HR := Lib.hid hrz
    have HG := Lib.hid hG63
    clear hrz hfit hG63
    go_enter Try.func42, Try.ntmps42
    go_wp2_with (at_builtin; refine Lib.wpList_append_run _ rfl _ _ _ _ rfl _ _ rfl rfl _ _ (HR.out _) ?_)
    all_goals
      go_ret
      refine ⟨some ⟨w.heap.size, 0, none⟩, G, rfl, ?_⟩
      have h1 := (St.init w).drew
      refine h1.add ((Below.refl _ _).alloc (Nat.le_refl _) _) (k := ownI 41 2 (.slice (some ⟨w.heap.size, 0, none⟩) 0 G) 0 []) ⟨rfl, .inr ⟨w.heap.size, G, _, rfl, Nat.zero_le _, heap_alloc_new _ _, Nat.zero_le _, HG.out, ?_, rfl⟩⟩ (fun g hg => ?_)
      · simp only [Array.size_append, size_zeroCells, hzs, List.size_toArray, List.length_nil]
        omega
      · have : g ∈ [w.heap.size] := hg
        rw [List.mem_singleton.1 this]; exact Nat.le_refl _
theorem tvRow_one (L : List Tv) : ∀ v ∈ tvRow L, v.oneCell' = true := fun v hv => by
  obtain ⟨c, hc, hv⟩ := List.mem_flatten.1 hv
  obtain ⟨t, _, rfl⟩ := List.mem_map.1 hc
  exact Tv.one t v hv
def szTo (a b k : Nat) : Nat := if k = 0 then 0 else if k = 1 then a else a + b
set_option maxRecDepth 100000 in
set_option maxHeartbeats 4000000 in
theorem concat_any (L M : List Tv) (A A' : Option Addr) (cA cA' G : Nat) (w : World) (hl : L.length ≤ 100000) (hm : M.length ≤ 100000) (hG : G < w.heap.size) (h0 : w.cell? ⟨G, 0, none⟩ = some (.slice A L.length cA)) (h1 : w.cell? ⟨G, 1, none⟩ = some (.slice A' M.length cA'))
    (hr : SlRow w w.heap.size 2 A (L.map Tv.vals)) (hr' : SlRow w w.heap.size 2 A' (M.map Tv.vals)) :
    Calls Try.prog 19 #[.slice (some ⟨G, 0, none⟩) 2 2] w fun e w' => ∃ A2 c2, e = .returned (.slice A2 (L ++ M).length c2) ∧ SlRow w' w'.heap.size 2 A2 ((L ++ M).map Tv.vals) ∧ Below w.heap.size w w' := by
  have Hr := Lib.hid hr
  have Hr' := Lib.hid hr'
  have hxs := tvC_len L
  have hys := tvC_len M
  clear hr hr'
  go_enter Try.func19, Try.ntmps19
  go_wp2_with fail
  go_loopw [3, 5, 11] (fun s3 _ i wr => ∃ k : Nat, k ≤ 2 ∧ i = .int .i64 k ∧ s3 = .int .i64 (szTo L.length M.length k : Nat) ∧ Hid (wr = w)) (fun _ _ i _ => 2 - (intOf i).toNat)
  case atStart => exact ⟨0, by omega, rfl, rfl, Lib.hid rfl⟩
  case round =>
    obtain ⟨k, hk, rfl, rfl, Hw⟩ := hrel
    have c0 : wr.cell? ⟨G, 0, none⟩ = some (.slice A L.length cA) := by rw [Hw.out]; exact h0
    have c1 : wr.cell? ⟨G, 1, none⟩ = some (.slice A' M.length cA') := by rw [Hw.out]; exact h1
    have hk3 : k = 0 ∨ k = 1 ∨ k = 2 := by omega
    rcases hk3 with rfl | rfl | rfl
    · have e0 : szTo L.length M.length 0 = 0 := rfl
      have e1 : szTo L.length M.length 1 = L.length := rfl
      go_wp2_with fail
      go_roundw
      case rel => exact ⟨1, by omega, rfl, by rw [e1], Hw⟩
      case measure => simp [intOf]
    · have e1 : szTo L.length M.length 1 = L.length := rfl
      have e2 : szTo L.length M.length 2 = L.length + M.length := rfl
      go_wp2_with fail
      go_roundw
      case rel => exact ⟨2, by omega, rfl, by rw [e2]; simp, Hw⟩
      case measure => simp [intOf]
    · have e2 : szTo L.length M.length 2 = L.length + M.length := rfl
      rw [e2]
      clear e2
      have HGr := Lib.hid (growT_any (L.length + M.length) (by omega) wr)
      go_wp2_with fail
      refine HGr.out.mono ?_
      rintro e w1 ⟨A0, c0', rfl, h1s⟩
      rw [Hw.out] at h1s
      have H1 := Lib.hid h1s
      clear h1s HGr c0 c1
      go_wp2_with fail
      go_loopw [6, 8, 27] (fun s6 _ i wx => ∃ (k : Nat) (A2 : Option Addr) (c2 : Nat), k ≤ 2 ∧ i = .int .i64 k ∧ s6 = .slice A2 (szTo L.length M.length k) c2 ∧ Hid (St w.heap.size w wx [ownI 41 2 (.slice A2 (szTo L.length M.length k) c2) (szTo L.length M.length k) (if k = 0 then [] else if k = 1 then tvRow L else tvRow L ++ tvRow M)])) (fun _ _ i _ => 2 - (intOf i).toNat)
      case atStart => exact ⟨0, A0, c0', by omega, rfl, rfl, H1⟩
      case round =>
        obtain ⟨k, A2, c2, hk, rfl, rfl, HS⟩ := hrel
        have hk3 : k = 0 ∨ k = 1 ∨ k = 2 := by omega
        rcases hk3 with rfl | rfl | rfl
        · have e0 : szTo L.length M.length 0 = 0 := rfl
          have HS : Hid (St w.heap.size w _ [ownI 41 2 (.slice A2 0 c2) 0 []]) := HS
          have d0 := laterc h0 HS.out.below hG
          have Hrow := Lib.hid (sl_ext Hr.out HS.out.below)
          go_wp2_with (at_builtin; refine wpList_append_st0 (t := 30) (e := 41) (size := 2) (bytes := 24) (n := 0) (m := L.length) (c := cA) [] (tvRow L) elemTlv HS.out (by with_unfolding_all rfl) (by with_unfolding_all rfl) (fun h => sl_from Hrow.out (by decide) hxs (by rw [List.length_map]; exact h)) (by rw [show (tvRow L).length = (L.map Tv.vals).length * 2 from flat_len hxs, List.length_map]) (tvRow_one L) (by unfold maxLen; omega) (by omega) (fun A3 c3 W3 H3 => ?_))
          have H3' : Hid (St w.heap.size w W3 [ownI 41 2 (.slice A3 (szTo L.length M.length 1) c3) (szTo L.length M.length 1) (if (1 : Nat) = 0 then [] else if (1 : Nat) = 1 then tvRow L else tvRow L ++ tvRow M)]) := Lib.hid (by simpa [szTo] using H3)
          clear H3
          go_roundw
          case rel => exact ⟨1, A3, c3, by omega, rfl, by simp [szTo], H3'⟩
          case measure => simp [intOf]
        · have e1 : szTo L.length M.length 1 = L.length := rfl
          have HS : Hid (St w.heap.size w _ [ownI 41 2 (.slice A2 L.length c2) L.length (tvRow L)]) := HS
          have d1 := laterc h1 HS.out.below hG
          have Hrow := Lib.hid (sl_ext Hr'.out HS.out.below)
          go_wp2_with (at_builtin; refine wpList_append_st0 (t := 30) (e := 41) (size := 2) (bytes := 24) (n := L.length) (m := M.length) (c := cA') (tvRow L) (tvRow M) elemTlv HS.out (by with_unfolding_all rfl) (by with_unfolding_all rfl) (fun h => sl_from Hrow.out (by decide) hys (by rw [List.length_map]; exact h)) (by rw [show (tvRow M).length = (M.map Tv.vals).length * 2 from flat_len hys, List.length_map]) (tvRow_one M) (by unfold maxLen; omega) (by omega) (fun A3 c3 W3 H3 => ?_))
          have H3' : Hid (St w.heap.size w W3 [ownI 41 2 (.slice A3 (szTo L.length M.length 2) c3) (szTo L.length M.length 2) (if (2 : Nat) = 0 then [] else if (2 : Nat) = 1 then tvRow L else tvRow L ++ tvRow M)]) := Lib.hid (by simpa [szTo] using H3)
          clear H3
          go_roundw
          case rel => exact ⟨2, A3, c3, by omega, rfl, by simp [szTo], H3'⟩
          case measure => simp [intOf]
        · have e2 : szTo L.length M.length 2 = L.length + M.length := rfl
          have HS : Hid (St w.heap.size w _ [ownI 41 2 (.slice A2 (L.length + M.length) c2) (L.length + M.length) (tvRow L ++ tvRow M)]) := HS
          go_wp2_with fail
          go_ret
          have hC : ((L ++ M).map Tv.vals).flatten = tvRow L ++ tvRow M := by simp [tvRow]
          have hCl : ((L ++ M).map Tv.vals).length = L.length + M.length := by simp
          have ho : wr.ownsRow 0 41 2 (.slice A2 (L.length + M.length) c2) ((L ++ M).map Tv.vals).length ((L ++ M).map Tv.vals).flatten := by
            rw [hC, hCl]; exact HS.out.head
          obtain ⟨A5, c5, e5, h5⟩ := own_sl ho (tvC_len (L ++ M))
          injection e5 with e5 _ _
          subst e5
          exact ⟨A2, c2, by rw [List.length_append, ← e2]; rfl, h5, HS.out.below⟩
theorem tlvWrite_no (L : List Tv) (A : Option Addr) (cap : Nat) (w : World) (hr : SlRow w w.heap.size 2 A (L.map Tv.vals)) (hn63 : L.length ≤ 100000) (hk : ∃ t ∈ L, t.okB = false) :
    Calls Try.prog 15 #[.slice A L.length cap] w fun e w' => ∃ g, e = .returned (.tuple #[.string ⟨#[]⟩, .iface 72 (.pointer (some ⟨g, 0, none⟩))]) ∧ Below w.heap.size w w' :=
  (tlvWrite_any L A cap w hr hn63).mono fun _ _ h => by
    obtain ⟨g, hg⟩ := h.2.1 hk
    exact ⟨g, hg, h.2.2⟩
end Go.Proofs.Ytidcjbanhdpkkaa

/- keep.rooms: the walk; prio.Less. -/
import Derived.Test.YthpgdipcdllfdaaRooms1
import Derived.Test.YthpgdipcdllfdaaPorts1
import Derived.RegionTactic
import Derived.BigRegion
namespace Go.Proofs.Ythpgdipcdllfdaa
open Go.RowKit
theorem Blk.set1 {w : World} {b o : Nat} {t : TypeId} {L : List Value} (h : Blk w b t L) (v : Value) : Blk (w.setCell ⟨b, o, none⟩ v) b t (L.set o v) := by
  have := heap_setCell_same w b o L.toArray t v h
  unfold Blk
  rw [this]
  congr 2
  simp
theorem Blk.drew {w : World} {b : Nat} {t : TypeId} {L : List Value} (h : Blk w b t L) : Blk w.drew b t L := h
theorem intVals_set (r : List Int) (o : Nat) (v : Int) : (intVals r).set o (.int .i64 v) = intVals (r.set o v) := by
  unfold intVals; rw [List.map_set]
theorem intVals_at {r : List Int} {k : Nat} (h : k < r.length) : (intVals r)[k]? = some (.int .i64 (r.getD k 0)) := by
  unfold intVals
  rw [List.getElem?_map, List.getElem?_eq_getElem h, List.getD_eq_getElem?_getD, List.getElem?_eq_getElem h]; rfl
theorem intVals_len (r : List Int) : (intVals r).length = r.length := by simp [intVals]
/-- 'make([]int, n)'. -/
theorem make_ints {P : Program} (t e : TypeId) (ht : P.underlying t = some (.slice e)) (hi : (P.info? e).map (fun i => (i.zero, i.size, i.bytes)) = some (some (.int .i64 0), 1, 8))
    (kl kc : IntKind) (n : Nat) (hn : n ≤ 10000) (w : World) :
    ∃ w1, (Instr.makeSlice t (.int kl (n : Int)) (.int kc (n : Int))).run P w = .ok (.slice (some ⟨w.heap.size, 0, none⟩) n n) w1 ∧ Below w.heap.size w w1 ∧ w.heap.size < w1.heap.size ∧ Blk w1 w.heap.size e (intVals (List.replicate n 0)) := by
  obtain ⟨i, hi', hz, hsz, hby⟩ := info_parts hi
  have hr := run_make (P := P) w t e i (.int .i64 0) ht hi' hz kl kc (n : Int) (n : Int) (by omega) (by omega) (by rw [hby]; omega) (by omega)
  simp only [Int.toNat_natCast, hsz, Nat.mul_one] at hr
  refine ⟨_, hr, (Below.refl _ w).alloc (Nat.le_refl _) _, by simp, ?_⟩
  have e1 : madeCells (Value.int .i64 0).cells n = (intVals (List.replicate n 0)).toArray := by
    apply Array.ext
    · simp [madeCells, intVals]
    · intro j h1 h2
      simp [madeCells, intVals, Value.cells, Nat.mod_one]
  rw [e1]
  exact Blk.new w _ e
theorem min_two {P : Program} (ts : Array TypeId) (t : TypeId) (x y : Int) (w : World) : (Builtin.min_ ts t #[.int .i64 x, .int .i64 y]).run P w = .ok (.int .i64 (if y < x then y else x)) w := by
  simp only [Builtin.min_, List.foldlM_cons, List.foldlM_nil, Builtin.min2, pure_bind]
  rfl
def initR (nn k : Nat) : List Int := (List.range nn).map fun x => if x < k then (x : Int) else 0
theorem initR_len (nn k : Nat) : (initR nn k).length = nn := by simp [initR]
theorem initR_set (nn k : Nat) (hk : k < nn) : (initR nn k).set k (k : Int) = initR nn (k + 1) := by
  apply List.ext_getElem?
  intro j
  rw [List.getElem?_set]
  unfold initR
  rw [List.getElem?_map, List.getElem?_map, List.length_map, List.length_range]
  by_cases hj : j < nn
  · rw [List.getElem?_range hj]
    by_cases e : k = j
    · subst e; simp [hk]
    · simp only [e, if_false, Option.map_some]
      congr 1
      by_cases h1 : j < k
      · rw [if_pos h1, if_pos (by omega)]
      · rw [if_neg h1, if_neg (by omega)]
  · rw [List.getElem?_eq_none (by simpa using hj)]
    simp; omega
theorem initR_zero (nn : Nat) : initR nn 0 = List.replicate nn 0 := by
  apply List.ext_getElem <;> simp [initR]
theorem initR_end (nn : Nat) : initR nn nn = (List.range nn).map fun (x : Nat) => (x : Int) := by
  unfold initR
  exact List.map_congr_left fun x hx => by rw [if_pos (List.mem_range.1 hx)]
theorem splice1 (L : List Value) (o : Nat) (v : Value) (h : o < L.length) : L.take o ++ ([v] ++ L.drop (o + [v].length)) = L.set o v := by
  rw [List.set_eq_take_append_cons_drop, if_pos h]; rfl
def RoomPost (w : World) (l : List Node) (H : Nat → Nat → Bool) (e : Ending) (w' : World) : Prop := ∃ g c, e = .returned (.slice (some ⟨g, 0, none⟩) (l.length + 64) c) ∧ l.length + 64 ≤ c ∧ w.heap.size ≤ g ∧ g < w'.heap.size ∧
  (∀ k, k < l.length + 64 → w'.cell? ⟨g, k, none⟩ = some (.int .i64 ((roomsM l H).getD k 0))) ∧ Below w.heap.size w w'
theorem infoI : (Try.prog.info? 3).map (·.size) = some 1 := by kernel_rfl
set_option maxRecDepth 100000 in
set_option maxHeartbeats 16000000 in
theorem rooms_any (L : List (Node × Value)) (A : Option Addr) (n cap f : Nat) (caps : Array Value) (H : Nat → Nat → Bool) (hL : L.length = n) (hn : n ≤ 12) (hcap : n ≤ cap) (w : World) (hl : NodesIn w w.heap.size A L) (hv : validNet (L.map (·.1)) = true)
    (hf : ∀ (args : Array Value) (W : World), (callFunc f args).run Try.prog W = .ok (.enter f args) W)
    (hp : ∀ (i k : Nat) (W : World), i < n → k < (nodeAt (L.map (·.1)) i).ports.length → Below w.heap.size w W → Calls Try.prog f (#[.int .i64 i, .int .i64 k] ++ caps) W fun e w' => e = .returned (.bool (H i k)) ∧ Below W.heap.size W w') :
    Calls Try.prog 23 #[.slice A n cap, .func (.func f) #[] caps] w (RoomPost w (L.map (·.1)) H) := by
  have HL := Lib.hid hL
  have Hl := Lib.hid hl
  have Hv := Lib.hid hv
  have Hp := Lib.hid hp
  have hll : (L.map (·.1)).length = n := by rw [List.length_map]; exact hL
  have Hll := Lib.hid hll
  have hnode : ∀ j (hj : j < L.length), nodeAt (L.map (·.1)) j = L[j].1 := fun j hj => by
    unfold nodeAt
    rw [List.getD_eq_getElem?_getD, List.getElem?_map, List.getElem?_eq_getElem hj]; rfl
  have Hnode := Lib.hid hnode
  generalize hl' : L.map (·.1) = l at *
  clear hL hl hv hp hll hnode hl'
  obtain ⟨nn, hnn⟩ : ∃ nn, nn = n + 64 := ⟨_, rfl⟩
  have hmk : ∃ w1, (Instr.makeSlice 50 (.int .i64 ((n : Int) + 64)) (.int .i64 ((n : Int) + 64))).run Try.prog w = .ok (.slice (some ⟨w.heap.size, 0, none⟩) nn nn) w1 ∧ Below w.heap.size w w1 ∧ w.heap.size < w1.heap.size ∧ Blk w1 w.heap.size 3 (intVals (initR nn 0)) := by
    have := make_ints (P := Try.prog) 50 3 Try.underlying50 (by kernel_rfl) .i64 .i64 (n + 64) (by omega) w
    rw [show ((n + 64 : Nat) : Int) = (n : Int) + 64 by omega] at this
    rw [hnn, initR_zero]; exact this
  obtain ⟨w1, hm1, hb1, lw1, hB1⟩ := hmk
  have HB1 := Lib.hid hB1
  have Hnn := Lib.hid hnn
  have hn76 : nn ≤ 76 := by omega
  clear hB1 hnn
  go_enter Try.func23, Try.ntmps23
  go_upto_region 2 with (fail)
  generalize hR : w.heap.size = R at *
  have HR := Lib.hid hR
  have hRB : R ≤ w.heap.size := by omega
  clear hR hm1
  go_wp2_with fail
  go_loopw [6, 18] (fun _ i wr => ∃ k : Nat, k ≤ nn ∧ i = .int .i64 k ∧ Hid (Blk wr R 3 (intVals (initR nn k))) ∧ Below R w wr) (fun _ i _ => nn - (intOf i).toNat)
  case atStart => exact ⟨0, by omega, rfl, HB1, hb1⟩
  case round =>
    clear HB1 hb1
    obtain ⟨k, hk, rfl, HB, hbr⟩ := hrel
    by_cases hlk : k < nn
    · have hkl : k < (intVals (initR nn k)).length := by rw [intVals_len, initR_len]; exact hlk
      go_upto_region 6 with (first
        | ((with_reducible refine wpList_store_blk (ty := 3) (b := ?b91) (o := ?o91) (t := 3) (intVals (initR nn k)) [.int .i64 k] ?hx91 ?hy91 ?hB91 ?ho91 ?hi91 ?h191 ?hk91)
           case hx91 => rfl
           case hy91 => rfl
           case hB91 => exact HB.out
           case ho91 => exact hkl
           case hi91 => exact infoI
           case h191 => exact fun v hv => by rw [List.mem_singleton.1 hv]; rfl
           intro W2 hS2 hO2))
      have HB2 : Hid (Blk W2 R 3 (intVals (initR nn (k + 1)))) := Lib.hid (by
        rw [splice1 _ _ _ hkl, intVals_set, initR_set nn k hlk] at hS2
        exact hS2)
      have hb2 := hO2.below (Nat.le_refl _) hbr
      clear hS2 hO2 HB hbr
      go_wp2_with fail
      go_roundw
      case rel => exact ⟨k + 1, by omega, by go_num, HB2, hb2⟩
      case measure => simp [intOf]; omega
    · have hkn : k = nn := by omega
      subst hkn
      have HB0 : Hid (Blk wr R 3 (intVals (roomsN l H 0))) := Lib.hid (by
        have := HB.out
        rw [initR_end, Hnn.out, ← Hll.out] at this
        exact this)
      clear HB
      go_wp2_with fail
      go_loopw [7, 8, 9, 10, 11, 29, 33, 41] (fun _ _ _ _ _ i _ _ wr => ∃ c : Nat, c ≤ k ∧ i = .int .i64 c ∧ Hid (Blk wr R 3 (intVals (roomsN l H c))) ∧ Below R w wr) (fun _ _ _ _ _ i _ _ _ => k - (intOf i).toNat)
      case atStart => exact ⟨0, by omega, rfl, HB0, hbr⟩
      case round =>
        clear HB0 hbr
        obtain ⟨c, hc, rfl, HB, hbr⟩ := hrel
        by_cases hlc : c < k
        · have hlc2 : (c : Int) < (n : Int) + 64 := by have := Hnn.out; omega
          go_wp2_with fail
          go_loopw [7, 8, 9, 10, 11, 33, 41] (fun _ _ _ _ _ i _ wr => ∃ j : Nat, j ≤ n ∧ i = .int .i64 j ∧ Hid (Blk wr R 3 (intVals (roomTo l H j 0 (roomsN l H c)))) ∧ Below R w wr) (fun _ _ _ _ _ i _ _ => n - (intOf i).toNat)
          case atStart => exact ⟨0, by omega, rfl, HB, hbr⟩
          case round =>
            clear HB hbr
            obtain ⟨j, hj, rfl, HB, hbr⟩ := hrel
            by_cases hlj : j < n
            · have hjx : j < L.length := by rw [HL.out]; exact hlj
              obtain ⟨g, o, rfl, hg, hc5⟩ := Hl.out.row (by rw [List.length_map]; omega)
              have hc1 := hc5 j (by rw [List.length_map]; exact hjx)
              rw [List.getElem_map] at hc1
              have hmm := Hl.out.mems L[j] (List.getElem_mem hjx)
              have hnk := Hnode.out j hjx
              generalize hN : L[j].1 = N at *
              generalize hS : L[j].2 = sv at *
              obtain ⟨A2, cap2, rfl, hcap2, hrow⟩ := hmm
              have hp8 : N.ports.length ≤ 8 := by
                have hx := valid_node Hv.out (i := j) (by rw [Hll.out]; exact hlj)
                rw [hnk] at hx
                unfold rightN at hx
                simp only [Bool.and_eq_true, decide_eq_true_eq] at hx
                omega
              generalize hnp : N.ports.length = np at *
              have hgR : g < R := by have := HR.out; omega
              have Hc1 := Lib.hid (rangeAt_below hc1 hbr hgR)
              have Hrow := Lib.hid hrow
              have Hnk := Lib.hid hnk
              have Hnp := Lib.hid hnp
              clear hc5 hc1 hN hS hrow hnk hnp
              go_upto_region 12 with (first
                | ((with_reducible refine wpList_load_rng (ty := 32) (b := ?b1) (o := ?o1) (ds := ?ds1) (N.vals (.slice A2 np cap2)) ?hx1 ?hB1 ?hu1 ?hd1 ?hi1 ?hk1)
                   case hx1 => rfl
                   case hB1 => exact Hc1.out
                   case hu1 => exact Try.underlying32
                   case hd1 => rfl
                   case hi1 => exact info32)
                | ((with_reducible refine wpList_store_blk (ty := 32) (b := ?b2) (o := ?o2) (t := 32) zNode (N.vals (.slice A2 np cap2)) ?hx2 ?hy2 ?hB2 ?ho2 ?hi2 ?h12 ?hk2)
                   case hx2 => rfl
                   case hy2 => rfl
                   case hB2 => exact Blk.new wr zNode 32
                   case ho2 => exact Nat.le_refl _
                   case hi2 => exact info32
                   case h12 => exact (Node.one _ _ _ _)
                   intro W4 hBW4 hoW4))
              obtain ⟨hb4, lP⟩ := Only.fresh hoW4
              have hc8 : W4.cell? ⟨wr.heap.size, 8, none⟩ = some (.slice A2 np cap2) := hBW4.box.cell 8
              have hb5 := hbr.trans (hb4.mono (Nat.le_trans hRB hbr.size))
              have HB4 := Lib.hid (Blk.below HB.out hb4 HB.out.lt)
              clear hBW4 hoW4 hb4 hbr HB Hc1
              generalize wr.heap.size = PI at *
              go_wp2_with fail
              go_loopw [9, 10, 11, 41] (fun _ _ _ i wr => ∃ q : Nat, q ≤ np ∧ i = .int .i64 q ∧ Hid (Blk wr R 3 (intVals (roomTo l H j q (roomsN l H c)))) ∧ Below R w wr) (fun _ _ _ i _ => np - (intOf i).toNat)
              case atStart => exact ⟨0, by omega, rfl, HB4, hb5⟩
              case round =>
                clear HB4 hb5 hc8
                obtain ⟨q, hq, rfl, HB, hbr⟩ := hrel
                by_cases hlq : q < np
                · have hqx : q < N.ports.length := by rw [Hnp.out]; exact hlq
                  obtain ⟨g2, o2, rfl, hg2, hc2⟩ := Hrow.out (by rw [List.length_map]; omega)
                  have hc3 := hc2 q (by rw [List.length_map]; exact hqx)
                  rw [List.getElem_map] at hc3
                  have hM : memAt l j q = N.ports[q] := by
                    unfold memAt
                    rw [Hnk.out, portAt_eq hqx]
                  have hjl : j < l.length := by rw [Hll.out]; exact hlj
                  have hqn : q < (nodeAt l j).ports.length := by rw [Hnk.out]; exact hqx
                  have hlan := (cost_pos Hv.out hjl hqn).2.2
                  rw [hM] at hlan
                  generalize N.ports[q] = M at *
                  obtain ⟨ln, hln⟩ : ∃ ln : Nat, M.lan = ln := ⟨M.lan.toNat, by omega⟩
                  have hln64 : ln < 64 := by omega
                  have Hlo : Hid (lanOf l (j, q) = n + ln) := Lib.hid (by
                    unfold lanOf
                    show l.length + (memAt l j q).lan.toNat = _
                    rw [Hll.out, hM, hln]; rfl)
                  have HC := Lib.hid (fun W hb => Hp.out j q W hlj hqn hb)
                  have Hst : Hid (roomTo l H j (q + 1) (roomsN l H c) = if H j q then relax (roomTo l H j q (roomsN l H c)) j (n + ln) else roomTo l H j q (roomsN l H c)) := Lib.hid (by
                    rw [roomTo_succ]
                    unfold stepR
                    rw [Hlo.out])
                  have Hcl : Hid ((roomTo l H j q (roomsN l H c)).length = k) := Lib.hid (by rw [roomTo_len, roomsN_len, Hll.out, Hnn.out])
                  have hg2R : g2 < R := by have := HR.out; omega
                  have Hc3 := Lib.hid (rangeAt_below hc3 hbr hg2R)
                  have Hln := Lib.hid hln
                  have hlnk : n + ln < k := by have := Hnn.out; omega
                  clear hc2 hc3 hM hln hlan
                  generalize roomTo l H j q (roomsN l H c) = r at *
                  go_upto_region 15 with (first
                    | ((with_reducible refine wpList_load_rng (ty := 37) (b := ?b3) (o := ?o3) (ds := ?ds3) M.vals ?hx3 ?hB3 ?hu3 ?hd3 ?hi3 ?hk3)
                       case hx3 => rfl
                       case hB3 => exact Hc3.out
                       case hu3 => exact Try.underlying37
                       case hd3 => rfl
                       case hi3 => exact info37)
                    | ((with_reducible refine wpList_store_blk (ty := 37) (b := ?b4) (o := ?o4) (t := 37) zMem M.vals ?hx4 ?hy4 ?hB4 ?ho4 ?hi4 ?h14 ?hk4)
                       case hx4 => rfl
                       case hy4 => rfl
                       case hB4 => exact Blk.new wr zMem 37
                       case ho4 => exact Nat.le_refl _
                       case hi4 => exact info37
                       case h14 => exact (Mem.one _)
                       intro W6 hBW6 hoW6))
                  obtain ⟨hb4, lM⟩ := Only.fresh hoW6
                  have HPM : Hid (Blk W6 wr.heap.size 37 M.vals) := hBW6
                  have hb5 := hbr.trans (hb4.mono (Nat.le_trans hRB hbr.size))
                  have HB6 := Lib.hid (Blk.below HB.out hb4 HB.out.lt)
                  have lRM : R < wr.heap.size := HB.out.lt
                  generalize wr.heap.size = PM at *
                  clear hBW6 hoW6 hb4 hbr HB Hc3
                  have HC6 := Lib.hid (HC.out W6 hb5)
                  clear HC
                  have hmin := @min_two Try.prog
                  cases hHq : H j q
                  · have Hst2 : Hid (roomTo l H j (q + 1) (roomsN l H c) = r) := Lib.hid (by rw [Hst.out, hHq]; rfl)
                    rw [hHq] at HC6
                    clear hHq Hst
                    go_wp2_with (first
                      | ((with_reducible refine HC6.out.mono ?_)
                         rintro e W7 ⟨rfl, hb7⟩
                         skip)
                      )
                    have HB7 : Hid (Blk W7 R 3 (intVals (roomTo l H j (q + 1) (roomsN l H c)))) := Lib.hid (by
                      rw [Hst2.out]; exact Blk.below HB6.out hb7 HB6.out.lt)
                    have hb8 := hb5.trans (hb7.mono (Nat.le_trans hRB hb5.size))
                    clear hb7 hb5 HB6 HPM
                    go_wp2_with fail
                    go_roundw
                    case rel => exact ⟨q + 1, by omega, by go_num, HB7, hb8⟩
                    case measure => simp [intOf]; omega
                  · have Hst2 : Hid (roomTo l H j (q + 1) (roomsN l H c) = relax r j (n + ln)) := Lib.hid (by rw [Hst.out, hHq]; rfl)
                    rw [hHq] at HC6
                    clear hHq Hst
                    go_upto_region 16 with (first
                      | ((with_reducible refine HC6.out.mono ?_)
                         rintro e W7 ⟨rfl, hb7⟩
                         skip)
                      )
                    have HB7 : Hid (Blk W7 R 3 (intVals r)) := Lib.hid (Blk.below HB6.out hb7 HB6.out.lt)
                    have HPM7 := Lib.hid (Blk.below HPM.out hb7 HPM.out.lt)
                    have hb8 := hb5.trans (hb7.mono (Nat.le_trans hRB hb5.size))
                    have hx : W7.cell? ⟨R, j, none⟩ = some (.int .i64 (r.getD j 0)) := by rw [HB7.out.box.cell, List.getElem?_toArray, intVals_at (by rw [Hcl.out]; omega)]
                    have hy : W7.cell? ⟨R, n + ln, none⟩ = some (.int .i64 (r.getD (n + ln) 0)) := by rw [HB7.out.box.cell, List.getElem?_toArray, intVals_at (by rw [Hcl.out]; omega)]
                    have hl3 : W7.cell? ⟨PM, 3, none⟩ = some (.int .i64 (ln : Int)) := by rw [← Hln.out]; exact HPM7.out.box.cell 3
                    have Hm : Hid (relax r j (n + ln) = (r.set j (if r.getD (n + ln) 0 < r.getD j 0 then r.getD (n + ln) 0 else r.getD j 0)).set (n + ln) (if r.getD (n + ln) 0 < r.getD j 0 then r.getD (n + ln) 0 else r.getD j 0)) := Lib.hid rfl
                    have lR7 : R < W7.heap.size := HB7.out.lt
                    have lM7 : PM < W7.heap.size := HPM7.out.lt
                    generalize r.getD j 0 = x at *
                    generalize r.getD (n + ln) 0 = y at *
                    have hi1 : (n : Int) + (ln : Int) < (k : Int) := by omega
                    have hi0 : (0 : Int) ≤ (n : Int) + (ln : Int) := by omega
                    have hwr : IntKind.i64.wrap ((n : Int) + (ln : Int)) = (n : Int) + (ln : Int) := IntWalk.i64_in _ (by omega)
                    have htn : ((n : Int) + (ln : Int)).toNat = n + ln := by omega
                    clear hb7 hb5 HB6 HPM
                    refine wp_region_ext (by kernel_rfl) (by kernel_rfl) ?_
                    repeat (go_big_quiet_step (fail))
                    refine wpQuiet_nil ?_
                    rintro W8 ⟨⟨_, hb9⟩, rfl⟩
                    try simp only [] at *
                    generalize (if y < x then y else x) = mm at *
                    have HB8 := Lib.hid (Blk.below HB7.out hb9 lR7)
                    have HPM8 := Lib.hid (Blk.below HPM7.out hb9 lM7)
                    have hb10 := hb8.trans (hb9.mono (Nat.le_trans hRB hb8.size))
                    have hx8 : W8.cell? ⟨R, j, none⟩ = some (.int .i64 x) := laterc hx hb9 lR7
                    have hy8 : W8.cell? ⟨R, n + ln, none⟩ = some (.int .i64 y) := laterc hy hb9 lR7
                    have hl8 : W8.cell? ⟨PM, 3, none⟩ = some (.int .i64 (ln : Int)) := laterc hl3 hb9 lM7
                    have hxf : W8.frozen? ⟨R, j, none⟩ = false := HB8.out.box.frozen j
                    have hyf : W8.frozen? ⟨R, n + ln, none⟩ = false := HB8.out.box.frozen _
                    clear hx hy hl3 hb9 hb8 HB7 HPM7 lR7 lM7 hmin
                    go_wp2_with fail
                    go_region
                    have HB9 : Hid (Blk ((W8.setCell ⟨R, j, none⟩ (.int .i64 mm)).setCell ⟨R, n + ln, none⟩ (.int .i64 mm)).drew R 3 (intVals (roomTo l H j (q + 1) (roomsN l H c)))) := Lib.hid (by
                      rw [Hst2.out, Hm.out, ← intVals_set, ← intVals_set]
                      exact ((HB8.out.set1 _).set1 _).drew)
                    have hb11 : Below R w ((W8.setCell ⟨R, j, none⟩ (.int .i64 mm)).setCell ⟨R, n + ln, none⟩ (.int .i64 mm)).drew := ((hb10.setCell (Nat.le_refl _) _).setCell (Nat.le_refl _) _).drew
                    generalize ((W8.setCell ⟨R, j, none⟩ (.int .i64 mm)).setCell ⟨R, n + ln, none⟩ (.int .i64 mm)).drew = W9 at *
                    clear HB8 HPM8 hb10 hx8 hy8 hl8 hxf hyf
                    go_wp2_with fail
                    go_roundw
                    case rel => exact ⟨q + 1, by omega, by go_num, HB9, hb11⟩
                    case measure => simp [intOf]; omega
                · have hqn : q = np := by omega
                  subst hqn
                  have HB2 : Hid (Blk wr R 3 (intVals (roomTo l H (j + 1) 0 (roomsN l H c)))) := Lib.hid (by
                    rw [roomTo_next, Hnk.out, Hnp.out]; exact HB.out)
                  clear HB
                  go_wp2_with fail
                  go_roundw
                  case rel => exact ⟨j + 1, by omega, by go_num, HB2, hbr⟩
                  case measure => simp [intOf]; omega
            · have hjn : j = n := by omega
              subst hjn
              have HB2 : Hid (Blk wr R 3 (intVals (roomsN l H (c + 1)))) := Lib.hid (by
                have := HB.out
                rw [← Hll.out] at this
                exact this)
              clear HB
              go_wp2_with fail
              go_roundw
              case rel => exact ⟨c + 1, by omega, by go_num, HB2, hbr⟩
              case measure => simp [intOf]; omega
        · have hck : c = k := by omega
          have hlc2 : ¬ (c : Int) < (n : Int) + 64 := by have := Hnn.out; omega
          subst hck
          go_wp2_with fail
          go_ret
          have e := Hnn.out
          subst e
          refine ⟨R, n + 64, ?_, ?_, ?_, HB.out.lt, ?_, ?_⟩
          · rw [Hll.out]; rfl
          · rw [Hll.out]; exact Nat.le_refl _
          · rw [HR.out]; exact Nat.le_refl _
          · intro q hq
            rw [HB.out.box.cell q, List.getElem?_toArray]
            have e2 : roomsM l H = roomsN l H (n + 64) := by unfold roomsM; rw [Hll.out]
            rw [e2]
            exact intVals_at (by rw [roomsN_len]; exact hq)
          · rw [HR.out]; exact hbr
end Go.Proofs.Ythpgdipcdllfdaa

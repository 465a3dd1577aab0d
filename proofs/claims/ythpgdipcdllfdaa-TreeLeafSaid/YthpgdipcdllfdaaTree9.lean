/- tree.others. -/
import Derived.Test.YthpgdipcdllfdaaTree8
import Derived.Test.YthpgdipcdllfdaaRows2
import Derived.Test.YthpgdipcdllfdaaTail1
import Derived.Test.YthpgdipcdllfdaaBuild1
namespace Go.Proofs.Ythpgdipcdllfdaa
open Go.RowKit
def zMem : List Value := [.int .i64 0, .int .i64 0, .int .i64 0, .int .i64 0]
def zVec : List Value := [.int .i64 0, .int .i64 0, .int .u8 0, .int .u8 0, .int .u8 0, .int .u8 0, .int .u8 0, .int .u8 0, .int .i64 0, .int .i64 0, .int .i64 0, .int .u8 0, .int .u8 0, .int .u8 0, .int .u8 0, .int .u8 0, .int .u8 0, .int .i64 0, .int .i64 0, .int .i64 0, .int .i64 0]
theorem elemVec : ElemOk Try.prog 44 48 21 88 := by
  have h : (Try.prog.info? 48).map (fun i => (i.zero, i.size, i.bytes)) = some (some (.agg zVec.toArray), 21, 88) := by kernel_rfl
  obtain ⟨i, hi, hz, hs, hb⟩ := info_parts h
  exact ⟨Try.underlying44, i, _, hi, hz, hs, hb, rfl, by decide⟩
theorem Vec.len (x : Vec) : x.vals.length = 21 := rfl
theorem own_below {w W : World} {base B : Nat} {e : TypeId} {size n : Nat} {v : Value} {xs : List Value} (h : w.ownsRow base e size v n xs) (hb : Below B w W) (hB : w.heap.size ≤ B) : W.ownsRow base e size v n xs := by
  refine ⟨h.1, ?_⟩
  rcases h.2 with h' | ⟨g, cap, cur, e1, e2, hh, r⟩
  · exact .inl h'
  · exact .inr ⟨g, cap, cur, e1, e2, (hb.block g (Nat.lt_of_lt_of_le (Array.getElem?_eq_some_iff.1 hh).1 hB)).trans hh, r⟩
theorem own_only {w W : World} {base b : Nat} {e : TypeId} {size n : Nat} {v : Value} {xs : List Value} (h : w.ownsRow base e size v n xs) (ho : Only b w W) (hne : v.ownBlock ≠ some b) : W.ownsRow base e size v n xs := by
  refine ⟨h.1, ?_⟩
  rcases h.2 with h' | ⟨g, cap, cur, e1, e2, hh, r⟩
  · exact .inl h'
  · refine .inr ⟨g, cap, cur, e1, e2, (ho.block g (fun eg => hne ?_)).trans hh, r⟩
    rw [e1, eg]; rfl
/-- The rows of a list of vectors. -/
def vrows (out : List Vec) : List Value := (out.map Vec.vals).flatten
theorem vrows_snoc (out : List Vec) (v : Vec) : vrows (out ++ [v]) = vrows out ++ v.vals := by simp [vrows]
/-- A slice of vectors of one's own. -/
def OwnVecs (w : World) (out : List Vec) (e : Ending) (w' : World) : Prop := ∃ v, e = .returned v ∧ w'.ownsRow w.heap.size 48 21 v out.length (vrows out) ∧ Below w.heap.size w w'
def othersPart (l : List Node) (has : List Vec) (i k j m : Nat) : List Vec := ((List.range m).filter (onLan l i k j)).map (tellsM (nodeAt l j) (has.getD j default))
def othersTo (l : List Node) (has : List Vec) (i k j : Nat) : List Vec := (List.range j).flatMap (othersOf l has i k)
theorem othersTo_succ (l : List Node) (has : List Vec) (i k j : Nat) : othersTo l has i k (j + 1) = othersTo l has i k j ++ othersPart l has i k j (nodeAt l j).ports.length := by
  simp [othersTo, List.range_succ, List.flatMap_append, othersOf, othersPart]
theorem othersPart_succ (l : List Node) (has : List Vec) (i k j m : Nat) : othersPart l has i k j (m + 1) = othersPart l has i k j m ++ (if onLan l i k j m = true then [tellsM (nodeAt l j) (has.getD j default) m] else []) := by
  unfold othersPart
  rw [List.range_succ, List.filter_append, List.map_append]
  congr 1
  by_cases h : onLan l i k j m = true <;> simp [h]
theorem others_len (l : List Node) (has : List Vec) (i k j m : Nat) (hj : j ≤ 12) (hp : ∀ a, (nodeAt l a).ports.length ≤ 8) (hm : m ≤ 8) : (othersTo l has i k j ++ othersPart l has i k j m).length ≤ 200 := by
  have h1 : ∀ j m, (othersPart l has i k j m).length ≤ m := fun j m => by
    unfold othersPart
    rw [List.length_map]
    exact Nat.le_trans (List.length_filter_le _ _) (by simp)
  have h2 : ∀ j, (othersTo l has i k j).length ≤ 8 * j := by
    intro j
    induction j with
    | zero => simp [othersTo]
    | succ j ih =>
      rw [othersTo_succ, List.length_append]
      have := h1 j (nodeAt l j).ports.length
      have := hp j
      omega
  have a := h1 j m
  have b := h2 j
  rw [List.length_append]
  omega
theorem rng_cell {w : World} {g o : Nat} {cs : List Value} (h : w.rangeAt g o cs) (j : Nat) (v : Value) (hv : cs[j]? = some v) : w.cell? ⟨g, o + j, none⟩ = some v := h j v hv
set_option maxRecDepth 100000 in
set_option maxHeartbeats 1000000 in
theorem others_any (L : List (Node × Value)) (V : List Vec) (A AV : Option Addr) (n cap capV i0 k0 : Nat) (hL : L.length = n) (hV : V.length = n) (hn : n ≤ 12) (hp : ∀ x ∈ L, x.1.ports.length ≤ 8) (w : World) (hl : NodesIn w w.heap.size A L) (hv : SlRow w w.heap.size 21 AV (V.map Vec.vals))
    (hi0 : i0 < n) (hk0 : k0 < (nodeAt (L.map (·.1)) i0).ports.length) :
    Calls Try.prog 45 #[.slice A n cap, .slice AV n capV, .int .i64 (i0 : Int), .int .i64 (k0 : Int)] w (OwnVecs w (othersM (L.map (·.1)) V i0 k0)) := by
  have HL := Lib.hid hL
  have Hl := Lib.hid hl
  have HV := Lib.hid hV
  have hi0x : i0 < L.length := by rw [hL]; exact hi0
  obtain ⟨g, o, rfl, hg, hc⟩ := hl.row (by rw [List.length_map]; omega)
  obtain ⟨gv, ov, rfl, hgv, hcv⟩ := hv (by rw [List.length_map]; omega)
  have hnode : ∀ j (hj : j < L.length), nodeAt (L.map (·.1)) j = L[j].1 := fun j hj => by
    unfold nodeAt
    rw [List.getD_eq_getElem?_getD, List.getElem?_map, List.getElem?_eq_getElem hj]; rfl
  have hrow : ∀ j (hj : j < L.length), w.rangeAt g (o + j * 9) (L[j].1.vals L[j].2) := fun j hj => by
    have := hc j (by rw [List.length_map]; exact hj)
    rwa [List.getElem_map] at this
  have hvrow : ∀ j, j < n → w.rangeAt gv (ov + j * 21) (V.getD j default).vals := fun j hj => by
    have hjv : j < V.length := by rw [hV]; exact hj
    have := hcv j (by rw [List.length_map]; exact hjv)
    rw [List.getElem_map] at this
    rw [List.getD_eq_getElem?_getD, List.getElem?_eq_getElem hjv]
    exact this
  obtain ⟨A0, cap0, hs0, hcap0, hr0⟩ := hl.mems L[i0] (List.getElem_mem hi0x)
  rw [hnode i0 hi0x] at hk0
  obtain ⟨g0, o0, hA0, hg0, hc0⟩ := hr0 (by rw [List.length_map]; omega)
  subst hA0
  have c1 : w.cell? ⟨g, o + i0 * 9 + 8, none⟩ = some (.slice (some ⟨g0, o0, none⟩) L[i0].1.ports.length cap0) := by
    have := hrow i0 hi0x 8 L[i0].2 rfl
    rw [this, hs0]
  have c2 : w.cell? ⟨g0, o0 + k0 * 4 + 3, none⟩ = some (.int .i64 (portAt L[i0].1 k0).lan) := by
    have := hc0 k0 (by rw [List.length_map]; exact hk0) 3
    rw [List.getElem_map] at this
    have e : portAt L[i0].1 k0 = L[i0].1.ports[k0] := by
      unfold portAt
      rw [List.getD_eq_getElem?_getD, List.getElem?_eq_getElem hk0]; rfl
    rw [e]
    exact this _ rfl
  have hq : ∀ a, (nodeAt (L.map (·.1)) a).ports.length ≤ 8 := fun a => by
    by_cases ha : a < L.length
    · rw [hnode a ha]; exact hp _ (List.getElem_mem ha)
    · unfold nodeAt
      rw [List.getD_eq_getElem?_getD, List.getElem?_eq_none (by rw [List.length_map]; omega)]
      exact Nat.zero_le 8
  have hon : ∀ j (hj : j < L.length) m, onLan (L.map (·.1)) i0 k0 j m = (decide ((portAt L[j].1 m).lan = (portAt L[i0].1 k0).lan) && !(decide (j = i0) && decide (m = k0))) := fun j hj m => by
    unfold onLan
    rw [hnode j hj, hnode i0 hi0x]
  have hend : othersM (L.map (·.1)) V i0 k0 = othersTo (L.map (·.1)) V i0 k0 n := by
    unfold othersM othersTo
    rw [List.length_map, hL]
  generalize hlan0 : (portAt L[i0].1 k0).lan = lan0 at *
  have hnp0 : k0 < L[i0].1.ports.length := hk0
  generalize L[i0].1.ports.length = np0 at *
  have Hnode := Lib.hid hnode
  have Hrow := Lib.hid hrow
  have Hvrow := Lib.hid hvrow
  have Hq := Lib.hid hq
  have Hon := Lib.hid hon
  have Hend := Lib.hid hend
  rw [Hend.out]
  have Hpp := Lib.hid hp
  clear hc hcv hnode hrow hvrow hs0 hr0 hc0 hq hon hend hlan0 hL hl hV hv hp hk0 Hend
  generalize L.map (·.1) = l at *
  go_enter Try.func45, Try.ntmps45
  go_wp2_with fail
  go_loopw [9, 10, 11, 12, 13, 16] (fun v _ _ _ _ i wr => ∃ j : Nat, j ≤ n ∧ i = .int .i64 j ∧ Hid (wr.ownsRow w.heap.size 48 21 v (othersTo l V i0 k0 j).length (vrows (othersTo l V i0 k0 j))) ∧ Below w.heap.size w wr) (fun _ _ _ _ _ i _ => n - (intOf i).toNat)
  case atStart => exact ⟨0, by omega, rfl, Lib.hid (World.ownsRow_nil _ _ _ _), Below.refl _ _⟩
  case round =>
    obtain ⟨j, hj, rfl, Ho, hbr⟩ := hrel
    by_cases hlt : j < n
    · have hjx : j < L.length := by rw [HL.out]; exact hlt
      have hnk := Hnode.out j hjx
      have hmm := Hl.out.mems L[j] (List.getElem_mem hjx)
      have hc1 := Hrow.out j hjx
      have hnpj := Hpp.out L[j] (List.getElem_mem hjx)
      have hon := Hon.out j hjx
      generalize hN : L[j].1 = N at *
      generalize hS : L[j].2 = sv at *
      obtain ⟨A2, cap2, rfl, hcap2, hrow⟩ := hmm
      generalize hnp : N.ports.length = np at *
      have Hc1 := Lib.hid (rangeAt_below hc1 hbr hg)
      have Hr2 := Lib.hid hrow
      have Hon2 := Lib.hid hon
      have Hnp := Lib.hid hnp
      have Hnk := Lib.hid hnk
      clear hc1 hN hS hrow hnk hon hnp
      go_upto_region 5 with (first
        | ((with_reducible refine wpList_load_rng (ty := 32) (b := ?b1) (o := ?o1) (ds := ?ds1) (N.vals (.slice A2 np cap2)) ?hx1 ?hB1 ?hu1 ?hd1 ?hi1 ?hk1)
           case hx1 => rfl
           case hB1 => exact Hc1.out
           case hu1 => exact Try.underlying32
           case hd1 => rfl
           case hi1 => exact info32)
        | ((with_reducible refine wpList_store_blk (ty := 32) (b := ?b2) (o := ?o2) (t := 32) zNode (N.vals (.slice A2 np cap2)) ?hx2 ?hy2 ?hB2 ?ho2 ?hi2 ?h12 ?hk2)
           case hx2 => rfl
           case hy2 => rfl
           case hB2 => exact Blk.new wr zNode 32
           case ho2 => exact Nat.le_refl _
           case hi2 => exact info32
           case h12 => exact (Node.one _ _ _ _)
           intro W4 hBW4 hoW4))
      obtain ⟨hb4, lP⟩ := Only.fresh hoW4
      have HP : Hid (Blk W4 wr.heap.size 32 (N.vals (.slice A2 np cap2))) := hBW4
      have hb5 := hbr.trans (hb4.mono hbr.size)
      have lBP : w.heap.size ≤ wr.heap.size := hbr.size
      have Ho4 := Lib.hid (own_below Ho.out hb4 (Nat.le_refl _))
      have hc8 : W4.cell? ⟨wr.heap.size, 8, none⟩ = some (.slice A2 np cap2) := HP.out.box.cell 8
      generalize wr.heap.size = P at *
      clear hBW4 hoW4 hb4 hbr Hc1 Ho
      go_wp2_with fail
      go_loopw [9, 12, 13, 24] (fun v _ _ i wr => ∃ m : Nat, m ≤ np ∧ i = .int .i64 m ∧ Hid (wr.ownsRow w.heap.size 48 21 v (othersTo l V i0 k0 j ++ othersPart l V i0 k0 j m).length (vrows (othersTo l V i0 k0 j ++ othersPart l V i0 k0 j m))) ∧ Below w.heap.size w wr ∧ Hid (Blk wr P 32 (N.vals (.slice A2 np cap2)))) (fun _ _ _ i _ => np - (intOf i).toNat)
      case atStart => exact ⟨0, by omega, rfl, Lib.hid (by simpa [othersPart] using Ho4.out), hb5, HP⟩
      case round =>
        clear hb5 HP Ho4 hc8 lP
        obtain ⟨m, hm, rfl, Ho, hbr, HP⟩ := hrel
        by_cases hlm : m < np
        · have hmx : m < N.ports.length := by rw [Hnp.out]; exact hlm
          obtain ⟨g2, o2, rfl, hg2, hc2⟩ := Hr2.out (by rw [List.length_map]; omega)
          have hc3 := hc2 m (by rw [List.length_map]; exact hmx)
          rw [List.getElem_map] at hc3
          have hport : N.ports[m] = portAt N m := by
            unfold portAt
            rw [List.getD_eq_getElem?_getD, List.getElem?_eq_getElem hmx]; rfl
          rw [hport] at hc3
          have Hc3 := Lib.hid (rangeAt_below hc3 hbr hg2)
          have hon := Hon2.out m
          have Hm0 : Hid (w.rangeAt g2 (o2 + m * 4) (portAt N m).vals) := hc3
          generalize portAt N m = M at hc3 Hc3 hon ⊢
          have Hon3 := Lib.hid hon
          have lP : P < wr.heap.size := HP.out.lt
          clear hc2 hc3 hport hon
          go_upto_region 8 with (first
            | ((with_reducible refine wpList_load_rng (ty := 37) (b := ?b3) (o := ?o3) (ds := ?ds3) M.vals ?hx3 ?hB3 ?hu3 ?hd3 ?hi3 ?hk3)
               case hx3 => rfl
               case hB3 => exact Hc3.out
               case hu3 => exact Try.underlying37
               case hd3 => rfl
               case hi3 => exact info37)
            | ((with_reducible refine wpList_store_blk (ty := 37) (b := ?b4) (o := ?o4) (t := 37) zMem M.vals ?hx4 ?hy4 ?hB4 ?ho4 ?hi4 ?h14 ?hk4)
               case hx4 => rfl
               case hy4 => rfl
               case hB4 => exact Blk.new wr zMem 37
               case ho4 => exact Nat.le_refl _
               case hi4 => exact info37
               case h14 => exact (Mem.one _)
               intro W6 hBW6 hoW6))
          obtain ⟨hb6, lQ⟩ := Only.fresh hoW6
          have HQ : Hid (Blk W6 wr.heap.size 37 M.vals) := hBW6
          have hb7 := hbr.trans (hb6.mono hbr.size)
          have Ho6 := Lib.hid (own_below Ho.out hb6 (Nat.le_refl _))
          have HP6 := Lib.hid (HP.out.below hb6 lP)
          have lBQ : w.heap.size ≤ wr.heap.size := hbr.size
          have lP6 : P < W6.heap.size := Nat.lt_of_lt_of_le lP hb6.size
          have q3 : W6.cell? ⟨wr.heap.size, 3, none⟩ = some (.int .i64 M.lan) := HQ.out.box.cell 3
          have d1 := laterc c1 hb7 hg
          have d2 := laterc c2 hb7 hg0
          have lg : g < W6.heap.size := Nat.lt_of_lt_of_le hg hb7.size
          have lg0 : g0 < W6.heap.size := Nat.lt_of_lt_of_le hg0 hb7.size
          generalize wr.heap.size = Q at *
          clear hBW6 hoW6 hb6 hbr Hc3 Ho HP lP
          have hw : (onLan l i0 k0 j m = false ∧ ((M.lan == lan0) = false ∨ ((M.lan == lan0) = true ∧ ((j : Int) != (i0 : Int)) = false ∧ ((m : Int) != (k0 : Int)) = false))) ∨
              (onLan l i0 k0 j m = true ∧ (M.lan == lan0) = true ∧ (((j : Int) != (i0 : Int)) = true ∨ (((j : Int) != (i0 : Int)) = false ∧ ((m : Int) != (k0 : Int)) = true))) := by
            rw [Hon3.out]
            by_cases e1 : M.lan = lan0
            · by_cases e2 : j = i0
              · by_cases e3 : m = k0
                · left; exact ⟨by simp [e1, e2, e3], .inr ⟨by simp [e1], by simp [e2], by simp [e3]⟩⟩
                · right; exact ⟨by simp [e1, e2, e3], by simp [e1], .inr ⟨by simp [e2], by simp; omega⟩⟩
              · right; exact ⟨by simp [e1, e2], by simp [e1], .inl (by simp; omega)⟩
            · left; exact ⟨by simp [e1], .inl (by simpa using e1)⟩
          have Hw := Lib.hid hw
          clear hw Hon3
          go_cut [50] (fun s50 wx => s50 = .bool (onLan l i0 k0 j m) ∧ Below W6.heap.size W6 wx)
          case first =>
            rcases Hw.out with ⟨ho, hw⟩ | ⟨ho, b1, hw⟩
            · rcases hw with b1 | ⟨b1, b2, b3⟩
              all_goals
                have HO := Lib.hid ho
                clear ho
                refine wp_region_ext (by kernel_rfl) (by kernel_rfl) ?_
                repeat (go_big_quiet_step (fail))
                refine wpQuiet_nil ?_
                rintro w7 ⟨⟨_, hb8⟩, rfl⟩
                go_wp2_with fail
                go_meet
                exact ⟨by rw [HO.out], hb8⟩
            · rcases hw with b2 | ⟨b2, b3⟩
              all_goals
                have HO := Lib.hid ho
                clear ho
                refine wp_region_ext (by kernel_rfl) (by kernel_rfl) ?_
                repeat (go_big_quiet_step (fail))
                refine wpQuiet_nil ?_
                rintro w7 ⟨⟨_, hb8⟩, rfl⟩
                go_wp2_with fail
                go_meet
                exact ⟨by rw [HO.out], hb8⟩
          case rest =>
            clear Hw d1 d2 q3
            obtain ⟨rfl, hb8⟩ := hcut
            have hb9 := hb7.trans (hb8.mono hb7.size)
            have HP8 := Lib.hid (HP6.out.below hb8 lP6)
            have Ho8 := Lib.hid (own_below Ho6.out hb8 (Nat.le_refl _))
            clear hb8 HP6 Ho6 hb7
            cases ho : onLan l i0 k0 j m
            · have ho9 : othersTo l V i0 k0 j ++ othersPart l V i0 k0 j (m + 1) = othersTo l V i0 k0 j ++ othersPart l V i0 k0 j m := by rw [othersPart_succ, if_neg (by rw [ho]; simp)]; simp
              have ho8 := Ho8.out
              rw [← ho9] at ho8
              have Ho9 := Lib.hid ho8
              clear ho9 ho8 ho Ho8
              go_wp2_with fail
              go_roundw
              case rel => exact ⟨m + 1, by omega, by go_num, Ho9, hb9, HP8⟩
              case measure => simp [intOf]; omega
            · have hnext : othersTo l V i0 k0 j ++ othersPart l V i0 k0 j (m + 1) = (othersTo l V i0 k0 j ++ othersPart l V i0 k0 j m) ++ [tellsM N (V.getD j default) m] := by
                rw [othersPart_succ, if_pos ho, Hnk.out, List.append_assoc]
              have htell : tellsM N (V.getD j default) m = tellV N (V.getD j default) (portAt N m).port := rfl
              rw [htell] at hnext
              have Hlen := Lib.hid (others_len l V i0 k0 j m (by omega) Hq.out (by omega))
              have hp0 := laterc (Hm0.out 0 _ rfl) hb9 hg2
              have hp1 := laterc (Hm0.out 1 _ rfl) hb9 hg2
              have hvr := rangeAt_below (Hvrow.out j hlt) hb9 hgv
              generalize V.getD j default = vj at *
              generalize portAt N m = M' at *
              generalize othersTo l V i0 k0 j ++ othersPart l V i0 k0 j m = out at *
              have Hnext := Lib.hid hnext
              have Hvr := Lib.hid hvr
              clear hnext htell ho hvr
              go_upto_region 9 with (fail)
              have HPr : Hid (wc.rangeAt P 0 (N.vals (.slice (some ⟨g2, o2, none⟩) np cap2))) := HP8.out.box.range
              have lPw : P < wc.heap.size := HP8.out.lt
              have lgv : gv < wc.heap.size := Nat.lt_of_lt_of_le hgv hb9.size
              have lg2 : g2 < wc.heap.size := Nat.lt_of_lt_of_le hg2 hb9.size
              have lBw : w.heap.size ≤ wc.heap.size := hb9.size
              refine wp_region_ext_tailm 8 rfl (by kernel_rfl) (by kernel_rfl) (fun _ _ _ h => h) ?_
              simp only [List.take_succ_cons, List.take_zero, List.drop_succ_cons, List.drop_zero]
              go_big_quiet_step (fail)
              go_big_quiet_want
              with_reducible refine quiet_load_rng (b := ?b5) (off := ?o5) (ds := ?ds5) (N.vals (.slice (some ⟨g2, o2, none⟩) np cap2)) ?hx5 ?hr5 ?hu5 ?hd5 ?hi5 ?hk5
              case hx5 => rfl
              case hr5 => rintro _ ⟨y, rfl⟩; exact rangeAt_below HPr.out y.below lPw
              case hu5 => exact Try.underlying32
              case hd5 => rfl
              case hi5 => exact info32
              go_simp
              go_big_quiet_on
              repeat (go_big_quiet_step (fail))
              go_big_quiet_want
              with_reducible refine quiet_load_rng (b := ?b6) (off := ?o6) (ds := ?ds6) vj.vals ?hx6 ?hr6 ?hu6 ?hd6 ?hi6 ?hk6
              case hx6 => rfl
              case hr6 => rintro _ ⟨y, rfl⟩; exact rangeAt_below Hvr.out y.below lgv
              case hu6 => exact Try.underlying48
              case hd6 => rfl
              case hi6 => exact info48
              go_simp
              go_big_quiet_on
              repeat (go_big_quiet_step (fail))
              go_big_quiet_step ((go_at_call 47; refine Calls.ext _ (tells_any N vj M'.port g2 o2 np cap2 m hlm hnpj _ ?_ ?_ ?_); (· exact Nat.lt_of_lt_of_le lg2 (Ext.below _).size); (· exact laterc hp0 (Ext.below _) lg2); (· exact laterc hp1 (Ext.below _) lg2)))
              repeat (go_big_quiet_step (fail))
              refine wpQuiet_nil ?_
              rintro w8 ⟨⟨_, hb10⟩, rfl⟩
              try simp only [] at *
              have Ho10 := Lib.hid (own_below Ho8.out hb10 (Nat.le_refl _))
              have hb11 := hb9.trans (hb10.mono hb9.size)
              have HP10 := Lib.hid (HP8.out.below hb10 lPw)
              clear hb9 hb10 Ho8 HP8 hp0 hp1
              refine wpList_build1 (tellV N vj M'.port).vals elemVec rfl rfl (by decide) ?_
              intro W9 hB9 hb12 lR
              have Ho12 := Lib.hid (own_below Ho10.out hb12 (Nat.le_refl _))
              have lP10 : P < w8.heap.size := HP10.out.lt
              have HP12 := Lib.hid (HP10.out.below hb12 lP10)
              have hb13 := hb11.trans (hb12.mono hb11.size)
              generalize w8.heap.size = R at *
              have HB9 := Lib.hid hB9
              clear hb12 Ho10 HP10 hb11 hB9
              refine wpList_append_row (v := u9) (base := w.heap.size) (n := out.length) (m := 1) (c := 1) (g := R) (vrows out) (tellV N vj M'.port).vals elemVec ?hs7 ?hx7 Ho12.out HB9.out.box.range ((Vec.len _).trans (Nat.one_mul 21).symm) (tellV N vj M'.port).one ?h637 ?hb7 hb13.size ?hk7
              case hs7 => rfl
              case hx7 => rfl
              case h637 => have := Hlen.out; unfold maxLen; omega
              case hb7 => have := Hlen.out; omega
              intro v' w11 hown hgrew
              have HP13 := Lib.hid (hgrew.blk HP12.out (own_ne Ho12.out HP12.out (by decide)))
              have hb14 := hgrew.below hb13
              have hown' : w11.ownsRow w.heap.size 48 21 v' (othersTo l V i0 k0 j ++ othersPart l V i0 k0 j (m + 1)).length (vrows (othersTo l V i0 k0 j ++ othersPart l V i0 k0 j (m + 1))) := by
                rw [Hnext.out, vrows_snoc, List.length_append]; exact hown
              have Hown := Lib.hid hown'
              clear hown hown' hgrew HB9 HP12 hb13 Ho12
              go_wp2_with fail
              go_roundw
              case rel => exact ⟨m + 1, by omega, by go_num, Hown, hb14, HP13⟩
              case measure => simp [intOf]; omega
        · have hmn : m = np := by omega
          have ho := Ho.out
          rw [hmn, ← Hnp.out, ← Hnk.out, ← othersTo_succ] at ho
          have Ho' := Lib.hid ho
          clear ho Ho
          go_wp2_with fail
          go_roundw
          case rel => exact ⟨j + 1, by omega, by go_num, Ho', hbr⟩
          case measure => simp [intOf]; omega
    · have hjn : j = n := by omega
      subst hjn
      go_wp2_with fail
      exact bodyPost_ret (by simp [results, Try.results45, go_sem]) rfl ⟨_, rfl, Ho.out, hbr⟩
end Go.Proofs.Ythpgdipcdllfdaa

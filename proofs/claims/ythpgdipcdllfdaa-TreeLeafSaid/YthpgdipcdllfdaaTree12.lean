/- tree.Solve. -/
import Derived.Test.YthpgdipcdllfdaaTree10
import Derived.Test.YthpgdipcdllfdaaTree11
import Derived.Test.YthpgdipcdllfdaaPrio2
namespace Go.Proofs.Ythpgdipcdllfdaa
open Go.RowKit
/-- Slices of vectors of one's own, and no error. -/
def SolPost (w : World) (out : List Vec) (e : Ending) (w' : World) : Prop := ∃ v, e = .returned (.tuple #[v, .nilIface]) ∧ w'.ownsRow w.heap.size 48 21 v out.length (vrows out) ∧ Below w.heap.size w w'
theorem NodesIn.imp {w : World} {B B' : Nat} {A : Option Addr} {L : List (Node × Value)} (h : NodesIn w B A L) (hB : B ≤ B') : NodesIn w B' A L :=
  ⟨h.row.more hB, fun x hx => by
    obtain ⟨A', c', e', hc', hr'⟩ := h.mems x hx
    exact ⟨A', c', e', hc', hr'.more hB⟩⟩
theorem own_base {w : World} {base B : Nat} {e : TypeId} {size n : Nat} {v : Value} {xs : List Value} (h : w.ownsRow base e size v n xs) (hB : B ≤ base) : w.ownsRow B e size v n xs := by
  refine ⟨h.1, ?_⟩
  rcases h.2 with h' | ⟨g, cap, cur, e1, e2, r⟩
  · exact .inl h'
  · exact .inr ⟨g, cap, cur, e1, Nat.le_trans hB e2, r⟩
theorem own_slrow {w : World} {base n cap : Nat} {A : Option Addr} {V : List Vec} (h : w.ownsRow base 48 21 (.slice A n cap) n (vrows V)) (hn : V.length = n) : SlRow w w.heap.size 21 A (V.map Vec.vals) := by
  obtain ⟨A', cap', e, _, _, hs⟩ := own_vecs h hn
  injection e with e1
  rw [e1]; exact hs
theorem own_map_take (l : List Node) (k : Nat) (hk : k < l.length) : ((l.take (k + 1)).map ownM) = (l.take k).map ownM ++ [ownM (nodeAt l k)] := by
  rw [List.take_succ_eq_append_getElem hk, List.map_append]
  unfold nodeAt
  rw [List.getD_eq_getElem?_getD, List.getElem?_eq_getElem hk]; rfl
set_option maxRecDepth 100000 in
set_option maxHeartbeats 2000000 in
theorem solve_any (L : List (Node × Value)) (A : Option Addr) (n cap : Nat) (hL : L.length = n) (hn : n ≤ 12) (hcap : n ≤ cap) (w : World) (hl : NodesIn w w.heap.size A L) (hok : okTo (L.map (·.1)) n = true) (hpo : PortsOk (L.map (·.1))) :
    Calls Try.prog 20 #[.slice A n cap] w (SolPost w (solveM (L.map (·.1)))) := by
  have hchk : ∀ W, Below w.heap.size w W → Calls Try.prog 18 #[.slice A n cap] W fun e w' => e = .returned .nilIface ∧ Below W.heap.size W w' := fun W hb =>
    (check_any L A n cap hL hn hcap W ((hl.below hb (Nat.le_refl _)).imp hb.size)).mono fun e w' ⟨h1, h2⟩ => ⟨h1.1 (by rw [List.length_map, hL]; exact hok), h2⟩
  have HC := Lib.hid hchk
  have HL := Lib.hid hL
  have Hl := Lib.hid hl
  have Hpo := Lib.hid hpo
  have hnode : ∀ j (hj : j < L.length), nodeAt (L.map (·.1)) j = L[j].1 := fun j hj => by
    unfold nodeAt
    rw [List.getD_eq_getElem?_getD, List.getElem?_map, List.getElem?_eq_getElem hj]; rfl
  have hp8 : ∀ x ∈ L, x.1.ports.length ≤ 8 := fun x hx => by
    obtain ⟨j, hj, rfl⟩ := List.getElem_of_mem hx
    unfold okTo at hok
    rw [List.all_eq_true] at hok
    have := hok j (by simp; omega)
    unfold okAt at this
    rw [hnode j hj] at this
    simp only [Bool.and_eq_true, decide_eq_true_eq] at this
    exact this.1
  have Hnode := Lib.hid hnode
  have Hp8 := Lib.hid hp8
  have hll : (L.map (·.1)).length = n := by rw [List.length_map]; exact hL
  have Hll := Lib.hid hll
  generalize hl' : L.map (·.1) = l at *
  have Hl' := Lib.hid hl'
  clear hchk hL hl hok hpo hnode hp8 hll hl'
  go_enter Try.func20, Try.ntmps20
  go_upto_region 4 with (
    ((with_reducible refine (HC.out _ (Below.refl _ _)).mono ?_)
     rintro e w1 ⟨rfl, hb1⟩)
    )
  go_wp2_with fail
  go_loopw [5, 7, 22] (fun v _ i wr => ∃ k : Nat, k ≤ n ∧ i = .int .i64 k ∧ Hid (wr.ownsRow w.heap.size 48 21 v k (vrows ((l.take k).map ownM))) ∧ Below w.heap.size w wr) (fun _ _ i _ => n - (intOf i).toNat)
  case atStart => exact ⟨0, by omega, rfl, Lib.hid (World.ownsRow_nil _ _ _ _), hb1⟩
  case round =>
    clear hb1
    obtain ⟨k, hk, rfl, Ho, hbr⟩ := hrel
    by_cases hlt : k < n
    · have hkx : k < L.length := by rw [HL.out]; exact hlt
      have hkl : k < l.length := by rw [Hll.out]; exact hlt
      obtain ⟨g, o, rfl, hg, hc⟩ := Hl.out.row (by rw [List.length_map]; omega)
      have hc1 := hc k (by rw [List.length_map]; exact hkx)
      rw [List.getElem_map] at hc1
      have hmm := Hl.out.mems L[k] (List.getElem_mem hkx)
      have hnk := Hnode.out k hkx
      have hmt := own_map_take l k hkl
      rw [hnk] at hmt
      generalize hN : L[k].1 = N at *
      generalize hS : L[k].2 = sv at *
      obtain ⟨A2, cap2, rfl, hcap2, hrow⟩ := hmm
      generalize hnp : N.ports.length = np at *
      have Hc1 := Lib.hid (rangeAt_below hc1 hbr hg)
      have Hmt := Lib.hid hmt
      clear hc hc1 hN hS hrow hnk hmt hnp
      go_upto_region 8 with (first
        | ((with_reducible refine wpList_load_rng (ty := 32) (b := ?b2) (o := ?o2) (ds := ?ds2) (N.vals (.slice A2 np cap2)) ?hx2 ?hB2 ?hu2 ?hd2 ?hi2 ?hk2)
           case hx2 => rfl
           case hB2 => exact Hc1.out
           case hu2 => exact Try.underlying32
           case hd2 => rfl
           case hi2 => exact info32)
        | ((with_reducible refine wpList_store_blk (ty := 32) (b := ?b3) (o := ?o3) (t := 32) zNode (N.vals (.slice A2 np cap2)) ?hx3 ?hy3 ?hB3 ?ho3 ?hi3 ?h13 ?hk3)
           case hx3 => rfl
           case hy3 => rfl
           case hB3 => exact Blk.new wr zNode 32
           case ho3 => exact Nat.le_refl _
           case hi3 => exact info32
           case h13 => exact (Node.one _ _ _ _)
           intro W4 hBW4 hoW4))
      obtain ⟨hb4, lP⟩ := Only.fresh hoW4
      have HP : Hid (Blk W4 wr.heap.size 32 (N.vals (.slice A2 np cap2))) := hBW4
      have hb5 := hbr.trans (hb4.mono hbr.size)
      have Ho4 := Lib.hid (own_below Ho.out hb4 (Nat.le_refl _))
      generalize wr.heap.size = P at *
      clear hBW4 hoW4 hb4 hbr Hc1 Ho
      go_wp2_with (first
        | ((with_reducible refine wpList_load_box (ty := 32) (b := ?b4) (ds := ?ds4) (N.vals (.slice A2 np cap2)) ?hx4 ?hB4 ?hu4 ?hd4 ?hi4 ?hk4)
           case hx4 => rfl
           case hB4 => exact HP.out.box
           case hu4 => exact Try.underlying32
           case hd4 => rfl
           case hi4 => exact info32)
        | ((with_reducible refine (own_any N (.slice A2 np cap2) _).mono ?_)
           rintro e w6 ⟨rfl, hb6⟩)
        | ((with_reducible refine wpList_build1 (ownM N).vals elemVec ?hxb ?hlb ?hsb ?hkb)
           case hxb => rfl
           case hlb => rfl
           case hsb => decide
           intro W7 hB7 hb7 lR
           refine wpList_append_row (v := u5) (base := w.heap.size) (n := k) (m := 1) (c := 1) (g := w6.heap.size) (vrows ((l.take k).map ownM)) (ownM N).vals elemVec ?hsz ?hxz (own_below (own_below Ho4.out hb6 (Nat.le_refl _)) hb7 (Nat.le_refl _)) hB7.box.range ((Vec.len _).trans (Nat.one_mul 21).symm) (ownM N).one ?h63z ?hbz (Nat.le_trans hb5.size (Nat.le_trans hb6.size hb7.size)) ?hkz
           case hsz => rfl
           case hxz => rfl
           case h63z => unfold maxLen; omega
           case hbz => omega
           intro v' w11 hown hgrew))
      have hb12 := hgrew.below ((hb5.trans (hb6.mono hb5.size)).trans (hb7.mono (Nat.le_trans hb5.size hb6.size)))
      have hown' : w11.ownsRow w.heap.size 48 21 v' (k + 1) (vrows ((l.take (k + 1)).map ownM)) := by
        rw [Hmt.out, vrows_snoc]; exact hown
      have Hown := Lib.hid hown'
      clear hown hown' hgrew hB7
      go_roundw
      case rel => exact ⟨k + 1, by omega, by go_num, Hown, hb12⟩
      case measure => simp [intOf]; omega
    · have hkn : k = n := by omega
      have h0 : (l.take k).map ownM = roundsM l 0 := by rw [hkn, List.take_of_length_le (by rw [Hll.out]; exact Nat.le_refl _)]; rfl
      have ho := Ho.out
      rw [h0, hkn] at ho
      have Ho1 := Lib.hid ho
      clear ho h0 hkn Ho
      go_wp2_with fail
      go_loopw [5, 8, 9, 10, 11, 13, 14, 34] (fun v _ _ _ _ _ _ i wr => ∃ t : Nat, t ≤ n ∧ i = .int .i64 t ∧ Hid (wr.ownsRow w.heap.size 48 21 v n (vrows (roundsM l t))) ∧ Below w.heap.size w wr) (fun _ _ _ _ _ _ _ i _ => n - (intOf i).toNat)
      case atStart => exact ⟨0, by omega, rfl, Ho1, hbr⟩
      case round =>
        clear Ho1 hbr
        obtain ⟨t, ht, rfl, Ho, hbr⟩ := hrel
        by_cases hlt : t < n
        · have hhl : (roundsM l t).length = n := by rw [rounds_len, Hll.out]
          have hcost : ∀ i k v, v ∈ othersM l (roundsM l t) i k → 0 ≤ v.cost ∧ v.cost ≤ 4000000000 := fun i k v h => others_cost Hpo.out (by omega) h
          have hnext : roundsM l (t + 1) = nextM l (roundsM l t) := rfl
          generalize roundsM l t = has at *
          have Hhl := Lib.hid hhl
          have Hcost := Lib.hid hcost
          have Hnext := Lib.hid hnext
          have hov := own_vecs Ho.out hhl
          obtain ⟨A5, cap5, rfl, hcap5, hA5, hsl5⟩ := hov
          obtain ⟨gH, rfl, hgH1, hgH2⟩ := hA5 (by omega)
          have hcl := cloneV_any has gH cap5 n hhl (by omega) hn wr hgH2 (fun k hk => by
            obtain ⟨g', o', e', _, hr'⟩ := hsl5 (by rw [List.length_map, hhl]; omega)
            injection e' with e'; injection e' with e1 e2
            subst e1 e2
            have := hr' k (by rw [List.length_map]; exact hk)
            rw [Nat.zero_add, List.getElem_map] at this
            exact this)
          have Hcl := Lib.hid hcl
          clear hhl hcost hnext hcl hsl5 hA5
          go_upto_region 13 with (
            ((with_reducible refine Hcl.out.mono ?_)
             rintro e w2 ⟨v8, rfl, hown8, hb8⟩)
            )
          rw [Hhl.out] at hown8
          have hov := own_vecs hown8 Hhl.out
          obtain ⟨A8, cap8, rfl, hcap8, hA8, hsl8⟩ := hov
          obtain ⟨gN, rfl, hgN1, hgN2⟩ := hA8 (by omega)
          have HoH := Lib.hid (own_below Ho.out hb8 (Nat.le_refl _))
          have hb9 := hbr.trans (hb8.mono hbr.size)
          have hownN : w2.ownsRow w.heap.size 48 21 (.slice (some ⟨gN, 0, none⟩) n cap8) n (vrows (nvTo l has 0 (has.getD 0 default))) := by
            rw [nvTo_start l has (by rw [Hhl.out, Hll.out])]
            exact own_base hown8 hbr.size
          have HoN := Lib.hid hownN
          have hHN : gH < gN := Nat.lt_of_lt_of_le hgH2 hgN1
          have hwH : w.heap.size ≤ gH := hgH1
          clear hown8 hsl8 hA8 hownN Ho hgN1 hb8 hbr hgH2
          go_wp2_with fail
          go_loopw [9, 10, 11, 13, 14, 40] (fun _ _ _ _ _ i wr => ∃ j : Nat, j ≤ n ∧ i = .int .i64 j ∧ Hid (wr.ownsRow w.heap.size 48 21 (.slice (some ⟨gN, 0, none⟩) n cap8) n (vrows (nvTo l has j (has.getD j default)))) ∧ Hid (wr.ownsRow w.heap.size 48 21 (.slice (some ⟨gH, 0, none⟩) n cap5) n (vrows has)) ∧ Below w.heap.size w wr) (fun _ _ _ _ _ i _ => n - (intOf i).toNat)
          case atStart => exact ⟨0, by omega, rfl, HoN, HoH, hb9⟩
          case round =>
            clear HoN HoH hb9 hgN2
            obtain ⟨j, hj, rfl, HoN, HoH, hbr⟩ := hrel
            by_cases hlj : j < n
            · have hjx : j < L.length := by rw [HL.out]; exact hlj
              have hjl : j < l.length := by rw [Hll.out]; exact hlj
              obtain ⟨g, o, rfl, hg, hc⟩ := Hl.out.row (by rw [List.length_map]; omega)
              have hc1 := hc j (by rw [List.length_map]; exact hjx)
              rw [List.getElem_map] at hc1
              have hmm := Hl.out.mems L[j] (List.getElem_mem hjx)
              have hnk := Hnode.out j hjx
              have hp8 := Hp8.out L[j] (List.getElem_mem hjx)
              generalize hN : L[j].1 = N at *
              generalize hS : L[j].2 = sv at *
              obtain ⟨A2, cap2, rfl, hcap2, hrow⟩ := hmm
              generalize hnp : N.ports.length = np at *
              have Hc1 := Lib.hid (rangeAt_below hc1 hbr hg)
              have Hrow := Lib.hid hrow
              have Hnk := Lib.hid hnk
              have Hnp := Lib.hid hnp
              have lN : gN < wr.heap.size := by have := HoN.out.lt gN rfl; exact this.2
              clear hc hc1 hN hS hrow hnk hnp
              go_upto_region 16 with (first
                | ((with_reducible refine wpList_load_rng (ty := 32) (b := ?b7) (o := ?o7) (ds := ?ds7) (N.vals (.slice A2 np cap2)) ?hx7 ?hB7 ?hu7 ?hd7 ?hi7 ?hk7)
                   case hx7 => rfl
                   case hB7 => exact Hc1.out
                   case hu7 => exact Try.underlying32
                   case hd7 => rfl
                   case hi7 => exact info32)
                | ((with_reducible refine wpList_store_blk (ty := 32) (b := ?b8) (o := ?o8) (t := 32) zNode (N.vals (.slice A2 np cap2)) ?hx8 ?hy8 ?hB8 ?ho8 ?hi8 ?h18 ?hk8)
                   case hx8 => rfl
                   case hy8 => rfl
                   case hB8 => exact Blk.new wr zNode 32
                   case ho8 => exact Nat.le_refl _
                   case hi8 => exact info32
                   case h18 => exact (Node.one _ _ _ _)
                   intro W4 hBW4 hoW4))
              obtain ⟨hb4, lP⟩ := Only.fresh hoW4
              have HP : Hid (Blk W4 wr.heap.size 32 (N.vals (.slice A2 np cap2))) := hBW4
              have hb5 := hbr.trans (hb4.mono hbr.size)
              have HoN4 := Lib.hid (own_below HoN.out hb4 (Nat.le_refl _))
              have HoH4 := Lib.hid (own_below HoH.out hb4 (Nat.le_refl _))
              have hc8 : W4.cell? ⟨wr.heap.size, 8, none⟩ = some (.slice A2 np cap2) := HP.out.box.cell 8
              have lBP : w.heap.size ≤ wr.heap.size := hbr.size
              generalize wr.heap.size = P at *
              clear hBW4 hoW4 hb4 hbr Hc1 HoN HoH
              go_wp2_with fail
              go_loopw [11, 13, 14, 48] (fun _ _ _ i wr => ∃ k : Nat, k ≤ np ∧ i = .int .i64 k ∧ Hid (wr.ownsRow w.heap.size 48 21 (.slice (some ⟨gN, 0, none⟩) n cap8) n (vrows (nvTo l has j (bestTo l has j k)))) ∧ Hid (wr.ownsRow w.heap.size 48 21 (.slice (some ⟨gH, 0, none⟩) n cap5) n (vrows has)) ∧ Below w.heap.size w wr ∧ Hid (Blk wr P 32 (N.vals (.slice A2 np cap2)))) (fun _ _ _ i _ => np - (intOf i).toNat)
              case atStart => exact ⟨0, by omega, rfl, HoN4, HoH4, hb5, HP⟩
              case round =>
                clear HoN4 HoH4 hb5 HP hc8 lP
                obtain ⟨k, hk, rfl, HoN, HoH, hbr, HP⟩ := hrel
                by_cases hlk : k < np
                · have hkx : k < N.ports.length := by rw [Hnp.out]; exact hlk
                  obtain ⟨g2, o2, rfl, hg2, hc2⟩ := Hrow.out (by rw [List.length_map]; omega)
                  have hc3 := hc2 k (by rw [List.length_map]; exact hkx)
                  rw [List.getElem_map] at hc3
                  have hport : N.ports[k] = portAt N k := by
                    unfold portAt
                    rw [List.getD_eq_getElem?_getD, List.getElem?_eq_getElem hkx]; rfl
                  rw [hport] at hc3
                  have hpc := Hpo.out j k hjl (by rw [Hnk.out]; exact hkx)
                  unfold memAt at hpc
                  rw [Hnk.out] at hpc
                  have hhv : ∀ v, hearsM (nodeAt l j) v k = hearV v (portAt N k).port (portAt N k).cost := fun v => by rw [Hnk.out]; rfl
                  have hO : ∀ W, Below w.heap.size w W → W.ownsRow w.heap.size 48 21 (.slice (some ⟨gH, 0, none⟩) n cap5) n (vrows has) → Calls Try.prog 45 #[.slice (some ⟨g, o, none⟩) n cap, .slice (some ⟨gH, 0, none⟩) n cap5, .int .i64 (j : Int), .int .i64 (k : Int)] W (OwnVecs W (othersM l has j k)) := fun W hb ho => by
                    have := others_any L has (some ⟨g, o, none⟩) (some ⟨gH, 0, none⟩) n cap cap5 j k HL.out Hhl.out hn Hp8.out W ((Hl.out.below hb (Nat.le_refl _)).imp hb.size) (own_slrow ho Hhl.out) hlj (by rw [Hl'.out, Hnk.out, Hnp.out]; exact hlk)
                    rw [Hl'.out] at this
                    exact this
                  have HO := Lib.hid (hO wr hbr HoH.out)
                  have Hc3 := Lib.hid hc3
                  have Hhv := Lib.hid hhv
                  have hco := fun v => Hcost.out j k v
                  have hbs := bestIn_succ l has j k
                  have hbe := bestTo_succ l has j k
                  have hlen : (othersM l has j k).length ≤ 200 := by
                    have e : othersM l has j k = othersTo l has j k n ++ othersPart l has j k n 0 := by
                      unfold othersM othersTo othersPart
                      rw [Hll.out]; simp
                    rw [e]
                    refine others_len l has j k n 0 hn (fun a => ?_) (by omega)
                    by_cases ha : a < L.length
                    · rw [Hnode.out a ha]; exact Hp8.out _ (List.getElem_mem ha)
                    · unfold nodeAt
                      rw [List.getD_eq_getElem?_getD, List.getElem?_eq_none (by rw [Hll.out, ← HL.out]; omega)]
                      exact Nat.zero_le 8
                  generalize othersM l has j k = out at *
                  have Hco := Lib.hid hco
                  have Hbs := Lib.hid hbs
                  have Hbe := Lib.hid hbe
                  have lN : gN < wr.heap.size := (HoN.out.lt gN rfl).2
                  have lPr : P < wr.heap.size := HP.out.lt
                  obtain ⟨hpc1, hpc2⟩ := hpc
                  have hc8 : wr.cell? ⟨P, 8, none⟩ = some (.slice (some ⟨g2, o2, none⟩) np cap2) := HP.out.box.cell 8
                  generalize portAt N k = M at *
                  clear hc2 hc3 hport hO hhv hco hbs hbe
                  go_wp2_with (
                    ((with_reducible refine HO.out.mono ?_)
                     rintro e w5 ⟨v55, rfl, hown55, hb6⟩
                     obtain ⟨A55, cap55, rfl, hcap55, hA55, hsl55⟩ := own_vecs hown55 rfl)
                    )
                  have HoN5 := Lib.hid (own_below HoN.out hb6 (Nat.le_refl _))
                  have HoH5 := Lib.hid (own_below HoH.out hb6 (Nat.le_refl _))
                  have HP5 := Lib.hid (HP.out.below hb6 lPr)
                  have hb7 := hbr.trans (hb6.mono hbr.size)
                  have Ho55 := Lib.hid hown55
                  generalize wr.heap.size = B55 at *
                  have hoN0 := HoN5.out
                  rw [← bestIn_zero] at hoN0
                  have HoN6 := Lib.hid hoN0
                  clear hown55 hA55 hsl55 hb6 hbr HoN HoH HP hc8 hoN0 HoN5
                  go_loopw [13, 14, 57] (fun _ _ i wr => ∃ q : Nat, q ≤ out.length ∧ i = .int .i64 q ∧ Hid (wr.ownsRow w.heap.size 48 21 (.slice (some ⟨gN, 0, none⟩) n cap8) n (vrows (nvTo l has j (bestIn l has j k q)))) ∧ Hid (wr.ownsRow w.heap.size 48 21 (.slice (some ⟨gH, 0, none⟩) n cap5) n (vrows has)) ∧ Below w.heap.size w wr ∧ Hid (Blk wr P 32 (N.vals (.slice (some ⟨g2, o2, none⟩) np cap2))) ∧ Hid (wr.ownsRow B55 48 21 (.slice A55 out.length cap55) out.length (vrows out))) (fun _ _ i _ => out.length - (intOf i).toNat)
                  case atStart => exact ⟨0, by omega, rfl, HoN6, HoH5, hb7, HP5, Ho55⟩
                  case round =>
                    clear HoN6 HoH5 hb7 HP5 Ho55
                    obtain ⟨q, hq, rfl, HoN, HoH, hbr, HP, Ho55⟩ := hrel
                    by_cases hlq : q < out.length
                    · obtain ⟨gO, oO, rfl, hgO, hcO⟩ := own_slrow Ho55.out rfl (by rw [List.length_map]; omega)
                      have hcq := hcO q (by rw [List.length_map]; exact hlq)
                      rw [List.getElem_map] at hcq
                      have hcst := Hco.out out[q] (List.getElem_mem hlq)
                      have hbs := Hbs.out q hlq
                      rw [Hhv.out] at hbs
                      generalize out[q] = v at *
                      have Hcq := Lib.hid hcq
                      have Hbs2 := Lib.hid hbs
                      obtain ⟨hv1, hv2⟩ := hcst
                      have lN : gN < wr.heap.size := (HoN.out.lt gN rfl).2
                      have lPr : P < wr.heap.size := HP.out.lt
                      clear hcO hcq hbs
                      go_upto_region 22 with (first
                        | ((with_reducible refine wpList_load_rng (ty := 48) (b := ?b10) (o := ?o10) (ds := ?ds10) v.vals ?hx10 ?hB10 ?hu10 ?hd10 ?hi10 ?hk10)
                           case hx10 => rfl
                           case hB10 => exact Hcq.out
                           case hu10 => exact Try.underlying48
                           case hd10 => rfl
                           case hi10 => exact info48)
                        | ((with_reducible refine wpList_store_blk (ty := 48) (b := ?b11) (o := ?o11) (t := 48) zVec v.vals ?hx11 ?hy11 ?hB11 ?ho11 ?hi11 ?h111 ?hk11)
                           case hx11 => rfl
                           case hy11 => rfl
                           case hB11 => exact Blk.new wr zVec 48
                           case ho11 => exact Nat.le_refl _
                           case hi11 => exact info48
                           case h111 => exact (Vec.one _)
                           intro W6 hBW6 hoW6))
                      obtain ⟨hb6, lQ⟩ := Only.fresh hoW6
                      have HQ : Hid (Blk W6 wr.heap.size 48 v.vals) := hBW6
                      have hb7 := hbr.trans (hb6.mono hbr.size)
                      have HoN6 := Lib.hid (own_below HoN.out hb6 (Nat.le_refl _))
                      have HoH6 := Lib.hid (own_below HoH.out hb6 (Nat.le_refl _))
                      have Ho56 := Lib.hid (own_below Ho55.out hb6 (Nat.le_refl _))
                      have HP6 := Lib.hid (HP.out.below hb6 lPr)
                      have lP6 : P < W6.heap.size := HP6.out.lt
                      have lN6 : gN < W6.heap.size := Nat.lt_of_lt_of_le lN hb6.size
                      have hp0 : W6.cell? ⟨g2, o2 + k * 4, none⟩ = some (.int .i64 M.port.prio) := laterc (Hc3.out 0 _ rfl) hb7 hg2
                      have hp1 : W6.cell? ⟨g2, o2 + k * 4 + 1, none⟩ = some (.int .i64 M.port.no) := laterc (Hc3.out 1 _ rfl) hb7 hg2
                      have hp2 : W6.cell? ⟨g2, o2 + k * 4 + 2, none⟩ = some (.int .i64 M.cost) := laterc (Hc3.out 2 _ rfl) hb7 hg2
                      have lg2 : g2 < W6.heap.size := Nat.lt_of_lt_of_le hg2 hb7.size
                      have HH := Lib.hid (hears_any N v M.port M.cost g2 o2 np cap2 k hlk hp8 hv1 hv2 (by omega) hpc2 W6 lg2 hp0 hp1 hp2)
                      generalize wr.heap.size = Q at *
                      clear hBW6 hoW6 hb6 hbr Hcq HoN HoH HP Ho55 hp0 hp1 hp2
                      go_upto_region 23 with (first
                        | ((with_reducible refine wpList_load_box (ty := 32) (b := ?b12) (ds := ?ds12) (N.vals (.slice (some ⟨g2, o2, none⟩) np cap2)) ?hx12 ?hB12 ?hu12 ?hd12 ?hi12 ?hk12)
                           case hx12 => rfl
                           case hB12 => exact HP6.out.box
                           case hu12 => exact Try.underlying32
                           case hd12 => rfl
                           case hi12 => exact info32)
                        | ((with_reducible refine wpList_load_box (ty := 48) (b := ?b13) (ds := ?ds13) v.vals ?hx13 ?hB13 ?hu13 ?hd13 ?hi13 ?hk13)
                           case hx13 => rfl
                           case hB13 => exact HQ.out.box
                           case hu13 => exact Try.underlying48
                           case hd13 => rfl
                           case hi13 => exact info48)
                        | ((with_reducible refine HH.out.mono ?_)
                           rintro e w7 ⟨rfl, hb8⟩)
                        | ((with_reducible refine wpList_store_blk (ty := 48) (b := ?b15) (o := ?o15) (t := 48) zVec (hearV v M.port M.cost).vals ?hx15 ?hy15 ?hB15 ?ho15 ?hi15 ?h115 ?hk15)
                           case hx15 => rfl
                           case hy15 => rfl
                           case hB15 => exact Blk.new w7 zVec 48
                           case ho15 => exact Nat.le_refl _
                           case hi15 => exact info48
                           case h115 => exact (Vec.one _)
                           intro W8 hBW8 hoW8))
                      obtain ⟨hb9, lR⟩ := Only.fresh hoW8
                      have HR : Hid (Blk W8 w7.heap.size 48 (hearV v M.port M.cost).vals) := hBW8
                      have hb10 := hb8.trans (hb9.mono hb8.size)
                      have hb11 := hb7.trans (hb10.mono hb7.size)
                      have HoN8 := Lib.hid (own_below HoN6.out hb10 (Nat.le_refl _))
                      have HoH8 := Lib.hid (own_below HoH6.out hb10 (Nat.le_refl _))
                      have Ho58 := Lib.hid (own_below Ho56.out hb10 (Nat.le_refl _))
                      have HP8 := Lib.hid (HP6.out.below hb10 lP6)
                      generalize w7.heap.size = R at *
                      clear hBW8 hoW8 hb8 hb9 hb10 HoN6 HoH6 Ho56 HP6 HQ HH hb7
                      generalize hearV v M.port M.cost = h at *
                      have hnv : (nvTo l has j (bestIn l has j k q)).length = n := by rw [nvTo_len, Hll.out]
                      obtain ⟨gN', oN', eN, hgN', hcN⟩ := own_slrow HoN8.out hnv (by rw [List.length_map, hnv]; omega)
                      injection eN with eN; injection eN with eN1 eN2
                      subst eN1 eN2
                      have hcj := hcN j (by rw [List.length_map, hnv]; exact hlj)
                      rw [Nat.zero_add, List.getElem_map] at hcj
                      have hgetj : (nvTo l has j (bestIn l has j k q))[j]'(by rw [hnv]; exact hlj) = bestIn l has j k q := by
                        have := nvTo_at l has j (bestIn l has j k q) hjl
                        rwa [List.getD_eq_getElem?_getD, List.getElem?_eq_getElem (by rw [hnv]; exact hlj)] at this
                      rw [hgetj] at hcj
                      have hset := fun x => nvTo_set l has j (bestIn l has j k q) x hjl
                      obtain ⟨Lc, hBlk, hle, hback⟩ := own_store HoN8.out hnv hlj h
                      rw [hset h] at hback
                      generalize bestIn l has j k q = acc at *
                      have Hcj := Lib.hid hcj
                      have Hback := Lib.hid hback
                      have HBlk := Lib.hid hBlk
                      clear hcN hcj hgetj hset hback hBlk hnv
                      go_cut [70] (fun s70 wx => s70 = .bool (better h acc) ∧ Below W8.heap.size W8 wx)
                      case first =>
                        refine wp_region_ext (by kernel_rfl) (by kernel_rfl) ?_
                        go_big_quiet_want
                        with_reducible refine quiet_load_rng (b := ?b16) (off := ?o16) (ds := ?ds16) h.vals ?hx16 ?hr16 ?hu16 ?hd16 ?hi16 ?hk16
                        case hx16 => rfl
                        case hr16 => rintro _ ⟨y, rfl⟩; exact rangeAt_below HR.out.box.range y.below lR
                        case hu16 => exact Try.underlying48
                        case hd16 => rfl
                        case hi16 => exact info48
                        go_simp
                        go_big_quiet_on
                        repeat (go_big_quiet_step (fail))
                        go_big_quiet_want
                        with_reducible refine quiet_load_rng (b := ?b17) (off := ?o17) (ds := ?ds17) acc.vals ?hx17 ?hr17 ?hu17 ?hd17 ?hi17 ?hk17
                        case hx17 => rfl
                        case hr17 => rintro _ ⟨y, rfl⟩; exact rangeAt_below Hcj.out y.below hgN'
                        case hu17 => exact Try.underlying48
                        case hd17 => rfl
                        case hi17 => exact info48
                        go_simp
                        go_big_quiet_on
                        repeat (go_big_quiet_step (fail))
                        go_big_quiet_step ((go_at_call 35; exact Calls.ext _ (better_any h acc _)))
                        repeat (go_big_quiet_step (fail))
                        refine wpQuiet_nil ?_
                        rintro w9 ⟨⟨_, hb12⟩, rfl⟩
                        go_wp2_with fail
                        go_meet
                        exact ⟨rfl, hb12⟩
                      case rest =>
                        obtain ⟨rfl, hb12⟩ := hcut
                        have lP8 : P < W8.heap.size := HP8.out.lt
                        have hb13 := hb11.trans (hb12.mono hb11.size)
                        have HoN9 := Lib.hid (own_below HoN8.out hb12 (Nat.le_refl _))
                        have HoH9 := Lib.hid (own_below HoH8.out hb12 (Nat.le_refl _))
                        have Ho59 := Lib.hid (own_below Ho58.out hb12 (Nat.le_refl _))
                        have HP9 := Lib.hid (HP8.out.below hb12 lP8)
                        have HR9 := Lib.hid (HR.out.below hb12 lR)
                        have HBlk9 := Lib.hid (HBlk.out.below hb12 hgN')
                        cases hbt : better h acc
                        · rw [hbt] at Hbs2
                          have hnext : bestIn l has j k (q + 1) = acc := by rw [Hbs2.out]; rfl
                          have hoN9 := HoN9.out
                          rw [← hnext] at hoN9
                          have HoN10 := Lib.hid hoN9
                          clear hbt hnext hoN9 HoN9 HoN8 HoH8 Ho58 HP8 HR HBlk HBlk9 Hcj Hback hb12 hb11
                          go_wp2_with fail
                          go_roundw
                          case rel => exact ⟨q + 1, by omega, by go_num, HoN10, HoH9, hb13, HP9, Ho59⟩
                          case measure => simp [intOf]; omega
                        · rw [hbt] at Hbs2
                          have hnext : bestIn l has j k (q + 1) = h := by rw [Hbs2.out]; rfl
                          have Hnx := Lib.hid hnext
                          have hNO : (Value.slice (some ⟨gO, oO, none⟩) out.length cap55).ownBlock ≠ some gN := fun e => by
                            have := (Ho59.out.lt _ e).1
                            omega
                          have hNH : (Value.slice (some ⟨gH, 0, none⟩) n cap5).ownBlock ≠ some gN := fun e => by
                            have e' : gH = gN := by simpa [Value.ownBlock] using e
                            omega
                          have HNO := Lib.hid hNO
                          have HNH := Lib.hid hNH
                          have lR9 : R < wc.heap.size := HR9.out.lt
                          clear hbt hnext hNO hNH HoN9 HoN8 HoH8 Ho58 HP8 HR HBlk Hcj hb12 hb11
                          go_wp2_with (first
                            | ((with_reducible refine wpList_load_box (ty := 48) (b := ?b18) (ds := ?ds18) h.vals ?hx18 ?hB18 ?hu18 ?hd18 ?hi18 ?hk18)
                               case hx18 => rfl
                               case hB18 => exact HR9.out.box
                               case hu18 => exact Try.underlying48
                               case hd18 => rfl
                               case hi18 => exact info48)
                            | ((with_reducible refine wpList_store_blk (ty := 48) (b := gN) (o := j * 21) (t := 48) Lc h.vals ?hxs ?hys ?hBs ?hos ?his ?h1s ?hks)
                               case hxs => rfl
                               case hys => rfl
                               case hBs => exact HBlk9.out
                               case hos => exact hle
                               case his => exact info48
                               case h1s => exact h.one
                               intro W10 hB10 ho10))
                          have HoN10 := Lib.hid (Hback.out W10 hB10)
                          have hoN10 := HoN10.out
                          rw [← Hnx.out] at hoN10
                          have HoN11 := Lib.hid hoN10
                          have HoH10 := Lib.hid (own_only HoH9.out ho10 HNH.out)
                          have Ho510 := Lib.hid (own_only Ho59.out ho10 HNO.out)
                          have HP10 := Lib.hid (HP9.out.only ho10 (by omega))
                          have hb14 := ho10.below (by omega) hb13
                          clear hoN10 hB10 ho10 HoN10
                          go_roundw
                          case rel => exact ⟨q + 1, by omega, by go_num, HoN11, HoH10, hb14, HP10, Ho510⟩
                          case measure => simp [intOf]; omega
                    · have hqn : q = out.length := by omega
                      have ho := HoN.out
                      rw [hqn, Hbe.out] at ho
                      have HoN' := Lib.hid ho
                      clear ho HoN
                      go_wp2_with fail
                      go_roundw
                      case rel => exact ⟨k + 1, by omega, by go_num, HoN', HoH, hbr, HP⟩
                      case measure => simp [intOf]; omega
                · have hkn : k = np := by omega
                  have ho := HoN.out
                  rw [hkn, ← Hnp.out, ← Hnk.out, bestTo_end, nvTo_step] at ho
                  have HoN' := Lib.hid ho
                  clear ho HoN
                  go_wp2_with fail
                  go_roundw
                  case rel => exact ⟨j + 1, by omega, by go_num, HoN', HoH, hbr⟩
                  case measure => simp [intOf]; omega
            · have hjn : j = n := by omega
              have ho := HoN.out
              rw [hjn, ← Hll.out, nvTo_end, ← Hnext.out] at ho
              rw [Hll.out] at ho
              have HoN' := Lib.hid ho
              clear ho HoN
              go_wp2_with fail
              go_roundw
              case rel => exact ⟨t + 1, by omega, by go_num, HoN', hbr⟩
              case measure => simp [intOf]; omega
        · have htn : t = n := by omega
          have ho := Ho.out
          have hs : roundsM l t = solveM l := by unfold solveM; rw [Hll.out, htn]
          rw [hs] at ho
          have hlen : (solveM l).length = n := by unfold solveM; rw [rounds_len, Hll.out]
          have Hlen := Lib.hid hlen
          have Ho2 := Lib.hid ho
          clear ho hs hlen htn Ho
          go_wp2_with fail
          go_ret2
          exact ⟨_, rfl, by rw [Hlen.out]; exact Ho2.out, hbr⟩
end Go.Proofs.Ythpgdipcdllfdaa

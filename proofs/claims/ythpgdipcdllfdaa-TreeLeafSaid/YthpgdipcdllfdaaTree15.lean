/- tree.Roles. -/
import Derived.Test.YthpgdipcdllfdaaTree14
import Derived.Test.YthpgdipcdllfdaaBuild2
namespace Go.Proofs.Ythpgdipcdllfdaa
open Go.RowKit
theorem elemInt : ElemOk Try.prog 50 3 1 8 := by
  have h : (Try.prog.info? 3).map (fun i => (i.zero, i.size, i.bytes)) = some (some (.int .i64 0), 1, 8) := by kernel_rfl
  obtain ⟨i, hi, hz, hs, hb⟩ := info_parts h
  exact ⟨Try.underlying50, i, _, hi, hz, hs, hb, rfl, by decide⟩
theorem elemInts : ElemOk Try.prog 41 50 1 24 := by
  have h : (Try.prog.info? 50).map (fun i => (i.zero, i.size, i.bytes)) = some (some (.slice none 0 0), 1, 24) := by kernel_rfl
  obtain ⟨i, hi, hz, hs, hb⟩ := info_parts h
  exact ⟨Try.underlying41, i, _, hi, hz, hs, hb, rfl, by decide⟩
def intVals (xs : List Int) : List Value := xs.map (Value.int .i64)
theorem intVals_one (xs : List Int) : ∀ v ∈ intVals xs, v.oneCell' = true := fun v hv => by
  obtain ⟨x, _, rfl⟩ := List.mem_map.1 hv; rfl
/-- The rows of roles, so far. -/
def RowsOk (w : World) (base : Nat) (vs : List Value) (f : Nat → List Int) (n : Nat) : Prop := vs.length = n ∧ ∀ i, i < n → w.ownsRow base 3 1 (vs.getD i undef) (f i).length (intVals (f i))
theorem RowsOk.below {w W : World} {base B : Nat} {vs : List Value} {f : Nat → List Int} {n : Nat} (h : RowsOk w base vs f n) (hb : Below B w W) (hB : w.heap.size ≤ B) : RowsOk W base vs f n :=
  ⟨h.1, fun i hi => own_below (h.2 i hi) hb hB⟩
theorem own_shape {w : World} {base : Nat} {e : TypeId} {size n : Nat} {v : Value} {xs : List Value} (h : w.ownsRow base e size v n xs) : ∃ A c, v = .slice A n c := by
  rcases h.2 with ⟨rfl, rfl⟩ | ⟨g, cap, cur, rfl, _⟩
  · exact ⟨none, 0, rfl⟩
  · exact ⟨_, cap, rfl⟩
theorem Grew.own' {base base' : Nat} {w W : World} {e e' : TypeId} {size size' n n' : Nat} {v v' : Value} {xs xs' : List Value} (h : Grew base v w W) (hv : w.ownsRow base e size v n xs) (hr : w.ownsRow base' e' size' v' n' xs') (hne : e ≠ e') : W.ownsRow base' e' size' v' n' xs' := by
  refine ⟨hr.1, ?_⟩
  rcases hr.2 with h' | ⟨g, cap, cur, e1, e2, e3, r⟩
  · exact .inl h'
  · have hB : Blk w g e' cur.toList := by unfold Blk; simpa using e3
    have := h.blk hB (own_ne hv hB hne)
    exact .inr ⟨g, cap, cur, e1, e2, by unfold Blk at this; simpa using this, r⟩
theorem RowsOk.grew {base B : Nat} {w W : World} {e : TypeId} {size m : Nat} {v : Value} {xs vs : List Value} {f : Nat → List Int} {n : Nat} (h : RowsOk w B vs f n) (hg : Grew base v w W) (hv : w.ownsRow base e size v m xs) (hne : e ≠ 3) : RowsOk W B vs f n :=
  ⟨h.1, fun i hi => hg.own' hv (h.2 i hi) hne⟩
theorem RowsOk.snoc {B : Nat} {w : World} {u : Value} {vs : List Value} {f : Nat → List Int} {n : Nat} (h : RowsOk w B vs f n) (hu : w.ownsRow B 3 1 u (f n).length (intVals (f n))) : RowsOk w B (vs ++ [u]) f (n + 1) := by
  refine ⟨by rw [List.length_append, h.1]; rfl, fun i hi => ?_⟩
  by_cases hin : i < n
  · have e : (vs ++ [u]).getD i undef = vs.getD i undef := by
      simp only [List.getD_eq_getElem?_getD]
      rw [List.getElem?_append_left (by rw [h.1]; exact hin)]
    rw [e]; exact h.2 i hin
  · have hi' : i = n := by omega
    subst hi'
    have e : (vs ++ [u]).getD i undef = u := by
      simp only [List.getD_eq_getElem?_getD]
      rw [List.getElem?_append_right (by rw [h.1]; exact Nat.le_refl _), h.1]; simp
    rw [e]; exact hu
def RolPost (w : World) (l : List Node) (e : Ending) (w' : World) : Prop := ∃ v vs, e = .returned (.tuple #[v, .nilIface]) ∧ w'.ownsRow w.heap.size 50 1 v l.length vs ∧ RowsOk w' w.heap.size vs (fun i => (rolesM l).getD i []) l.length ∧ Below w.heap.size w w'
def rolesTo (l : List Node) (V : List Vec) (i k : Nat) : List Int := (List.range k).map fun q => roleM (nodeAt l i) (V.getD i default) q (bestAt l V i q)
theorem rolesTo_succ (l : List Node) (V : List Vec) (i k : Nat) : rolesTo l V i (k + 1) = rolesTo l V i k ++ [roleM (nodeAt l i) (V.getD i default) k (bestAt l V i k)] := by simp [rolesTo, List.range_succ]
theorem rolesTo_len (l : List Node) (V : List Vec) (i k : Nat) : (rolesTo l V i k).length = k := by simp [rolesTo]
theorem rolesM_at (l : List Node) {i : Nat} (hi : i < l.length) : (rolesM l).getD i [] = rolesTo l (solveM l) i (nodeAt l i).ports.length := by
  unfold rolesM
  rw [getD_map_range _ _ _ _ hi]; rfl
set_option maxRecDepth 100000 in
set_option maxHeartbeats 4000000 in
theorem roles_any (L : List (Node × Value)) (A : Option Addr) (n cap : Nat) (hL : L.length = n) (hn : n ≤ 12) (hcap : n ≤ cap) (w : World) (hl : NodesIn w w.heap.size A L) (hok : okTo (L.map (·.1)) n = true) (hpo : PortsOk (L.map (·.1))) :
    Calls Try.prog 19 #[.slice A n cap] w (RolPost w (L.map (·.1))) := by
  have HS := Lib.hid (solve_any L A n cap hL hn hcap w hl hok hpo)
  have HL := Lib.hid hL
  have Hl := Lib.hid hl
  have hnode : ∀ j (hj : j < L.length), nodeAt (L.map (·.1)) j = L[j].1 := fun j hj => by
    unfold nodeAt
    rw [List.getD_eq_getElem?_getD, List.getElem?_map, List.getElem?_eq_getElem hj]; rfl
  have hp8 : ∀ x ∈ L, x.1.ports.length ≤ 8 := fun x hx => by
    obtain ⟨j, hj, rfl⟩ := List.getElem_of_mem hx
    unfold okTo at hok
    rw [List.all_eq_true] at hok
    have := hok j (by simp; omega)
    unfold okAt at this
    rw [hnode j hj] at this
    simp only [Bool.and_eq_true, decide_eq_true_eq] at this
    exact this.1
  have Hnode := Lib.hid hnode
  have Hp8 := Lib.hid hp8
  have hll : (L.map (·.1)).length = n := by rw [List.length_map]; exact hL
  have Hll := Lib.hid hll
  generalize hl' : L.map (·.1) = l at *
  have Hl' := Lib.hid hl'
  have hVl : (solveM l).length = n := by unfold solveM; rw [rounds_len, hll]
  have hrm : ∀ i, i < n → (rolesM l).getD i [] = rolesTo l (solveM l) i (nodeAt l i).ports.length := fun i hi => rolesM_at l (by omega)
  generalize hV : solveM l = V at *
  have HVl := Lib.hid hVl
  have Hrm := Lib.hid hrm
  clear hL hl hok hpo hnode hp8 hll hl' hVl hrm hV
  go_enter Try.func19, Try.ntmps19
  go_upto_region 4 with (
    ((with_reducible refine HS.out.mono ?_)
     rintro e w1 ⟨v4, rfl, hown, hb1⟩
     rw [HVl.out] at hown
     obtain ⟨A5, cap5, rfl, hcap5, _, _⟩ := own_vecs hown HVl.out)
    )
  have hb2 : Below w.heap.size w (w1.alloc (.cells #[.slice A5 n cap5] 44)) := hb1.alloc hb1.size _
  have HoV := Lib.hid (World.ownsRow.alloc hown (.cells #[.slice A5 n cap5] 44))
  have hPc : Blk (w1.alloc (.cells #[.slice A5 n cap5] 44)) w1.heap.size 44 [.slice A5 n cap5] := Blk.new w1 [.slice A5 n cap5] 44
  have lPH : w1.heap.size < (w1.alloc (.cells #[.slice A5 n cap5] 44)).heap.size := by simp
  have hwP : w.heap.size ≤ w1.heap.size := hb1.size
  have HPc := Lib.hid hPc
  generalize w1.alloc (.cells #[.slice A5 n cap5] 44) = W1 at *
  generalize w1.heap.size = PH at *
  clear hown hPc hb1
  go_wp2_with fail
  go_loopw [6, 7, 8, 9, 10, 11, 22] (fun v _ _ _ _ _ i wr => ∃ (j : Nat) (vs : List Value), j ≤ n ∧ i = .int .i64 j ∧ Hid (wr.ownsRow w.heap.size 50 1 v j vs) ∧ Hid (RowsOk wr w.heap.size vs (fun i => (rolesM l).getD i []) j) ∧ Hid (wr.ownsRow w.heap.size 48 21 (.slice A5 n cap5) n (vrows V)) ∧ Hid (Blk wr PH 44 [.slice A5 n cap5]) ∧ PH < wr.heap.size ∧ Below w.heap.size w wr) (fun _ _ _ _ _ _ i _ => n - (intOf i).toNat)
  case atStart => exact ⟨0, [], by omega, rfl, Lib.hid (World.ownsRow_nil _ _ _ _), Lib.hid ⟨rfl, fun i hi => absurd hi (by omega)⟩, HoV, HPc, lPH, hb2⟩
  case round =>
    clear HoV HPc lPH hb2
    obtain ⟨j, vs, hj, rfl, Ho, Hrows, HoV, HPc, lPH, hbr⟩ := hrel
    by_cases hlj : j < n
    · have hjx : j < L.length := by rw [HL.out]; exact hlj
      have hjl : j < l.length := by rw [Hll.out]; exact hlj
      obtain ⟨g, o, rfl, hg, hc⟩ := Hl.out.row (by rw [List.length_map]; omega)
      have hc1 := hc j (by rw [List.length_map]; exact hjx)
      rw [List.getElem_map] at hc1
      have hmm := Hl.out.mems L[j] (List.getElem_mem hjx)
      have hnk := Hnode.out j hjx
      have hp8 := Hp8.out L[j] (List.getElem_mem hjx)
      have hrj := Hrm.out j hlj
      generalize hN : L[j].1 = N at *
      generalize hS : L[j].2 = sv at *
      obtain ⟨A2, cap2, rfl, hcap2, hrow⟩ := hmm
      rw [hnk] at hrj
      generalize hnp : N.ports.length = np at *
      have Hc1 := Lib.hid (rangeAt_below hc1 hbr hg)
      have Hrow := Lib.hid hrow
      have Hnk := Lib.hid hnk
      have Hnp := Lib.hid hnp
      have Hrj := Lib.hid hrj
      obtain ⟨hk1, hk2, hk3, hk4⟩ := two_blks wr [.int .i64 0] zNode 3 32 _ rfl
      have HK1 := Lib.hid hk1
      have HK2 := Lib.hid hk2
      clear hc hc1 hN hS hrow hnk hnp hrj hk1 hk2
      go_upto_region 9 with (first
        | ((with_reducible refine wpList_load_rng (ty := 32) (b := ?b2) (o := ?o2) (ds := ?ds2) (N.vals (.slice A2 np cap2)) ?hx2 ?hB2 ?hu2 ?hd2 ?hi2 ?hk2)
           case hx2 => rfl
           case hB2 => exact Hc1.out
           case hu2 => exact Try.underlying32
           case hd2 => rfl
           case hi2 => exact info32)
        | ((with_reducible refine wpList_store_blk (ty := 3) (b := wr.heap.size) (o := 0) (t := 3) [.int .i64 0] [.int .i64 (j : Int)] ?hxs ?hys ?hBs ?hos ?his ?h1s ?hks)
           case hxs => rfl
           case hys => rfl
           case hBs => exact HK1.out
           case hos => exact Nat.le_refl 1
           case his => exact info3
           case h1s => exact intVals_one [(j : Int)]
           intro W4 hB4 ho4)
        | ((with_reducible refine wpList_store_blk (ty := 32) (b := wr.heap.size + 1) (o := 0) (t := 32) zNode (N.vals (.slice A2 np cap2)) ?hxu ?hyu ?hBu ?hou ?hiu ?h1u ?hku)
           case hxu => rfl
           case hyu => rfl
           case hBu => exact HK2.out.only ho4 (by omega)
           case hou => exact Nat.le_refl 9
           case hiu => exact info32
           case h1u => exact Node.one _ _ _ _
           intro W5 hB5 ho5))
      have hBI : Hid (Blk W5 wr.heap.size 3 [.int .i64 (j : Int)]) := Blk.only hB4 ho5 (by omega)
      have hBN : Hid (Blk W5 (wr.heap.size + 1) 32 (N.vals (.slice A2 np cap2))) := hB5
      have hb4 : Below wr.heap.size wr W5 := ho5.below (by omega) (ho4.below (Nat.le_refl _) hk3)
      have hb5 := hbr.trans (hb4.mono hbr.size)
      have lPI : wr.heap.size < W5.heap.size := hBI.out.lt
      have lPN : wr.heap.size + 1 < W5.heap.size := hBN.out.lt
      have Ho5 := Lib.hid (own_below Ho.out hb4 (Nat.le_refl _))
      have Hrows5 := Lib.hid (Hrows.out.below hb4 (Nat.le_refl _))
      have HoV5 := Lib.hid (own_below HoV.out hb4 (Nat.le_refl _))
      have HPc5 := Lib.hid (HPc.out.below hb4 lPH)
      have lPH5 : PH < W5.heap.size := Nat.lt_of_lt_of_le lPH hb4.size
      have hc8 : W5.cell? ⟨wr.heap.size + 1, 8, none⟩ = some (.slice A2 np cap2) := hBN.out.box.cell 8
      generalize wr.heap.size = PI at *
      clear hB4 ho4 hB5 ho5 hb4 hbr Hc1 Ho Hrows HoV HPc HK1 HK2 hk3 hk4
      go_wp2_with fail
      go_loopw [9, 10, 11, 30] (fun v _ _ i wr => ∃ k : Nat, k ≤ np ∧ i = .int .i64 k ∧ Hid (wr.ownsRow W5.heap.size 3 1 v k (intVals (rolesTo l V j k))) ∧ Below W5.heap.size W5 wr) (fun _ _ _ i _ => np - (intOf i).toNat)
      case atStart => exact ⟨0, by omega, rfl, Lib.hid (World.ownsRow_nil _ _ _ _), Below.refl _ _⟩
      case round =>
        clear hc8
        obtain ⟨k, hk, rfl, Hk, hbr⟩ := hrel
        by_cases hlk : k < np
        · have hkx : k < N.ports.length := by rw [Hnp.out]; exact hlk
          obtain ⟨g2, o2, rfl, hg2, hc2⟩ := Hrow.out (by rw [List.length_map]; omega)
          have hc3 := hc2 k (by rw [List.length_map]; exact hkx)
          rw [List.getElem_map] at hc3
          have hport : N.ports[k] = portAt N k := by
            unfold portAt
            rw [List.getD_eq_getElem?_getD, List.getElem?_eq_getElem hkx]; rfl
          rw [hport] at hc3
          have hbw := hb5.trans (hbr.mono hb5.size)
          have hHov := own_below HoV5.out hbr (Nat.le_refl _)
          obtain ⟨A5', cap5', e5, _, hA5, hsl5⟩ := own_vecs hHov HVl.out
          injection e5 with e5a e5b e5c
          subst e5a e5c
          obtain ⟨gH, rfl, hgH1, hgH2⟩ := hA5 (by omega)
          have HoV6 := Lib.hid hHov
          have HP6 := Lib.hid (laterc (HPc5.out.box.cell 0) hbr lPH5)
          have HI6 := Lib.hid (Blk.below hBI.out hbr lPI)
          have HN6 := Lib.hid (Blk.below hBN.out hbr lPN)
          have lPH6 : PH < wr.heap.size := Nat.lt_of_lt_of_le lPH5 hbr.size
          have Hc3 := Lib.hid hc3
          clear hc2 hc3 hport hHov hA5 hsl5 hgH1
          go_upto_region 12 with (fail)
          have hb6 : Below W5.heap.size W5 (wr.alloc (.cells #[.int .i64 (k : Int)] 3)) := hbr.alloc hbr.size _
          have lPK : wr.heap.size < (wr.alloc (.cells #[.int .i64 (k : Int)] 3)).heap.size := by simp
          have hb7 : Below wr.heap.size wr (wr.alloc (.cells #[.int .i64 (k : Int)] 3)) := (Below.refl _ _).alloc (Nat.le_refl _) _
          have HK6 := Lib.hid ((one_box wr #[.int .i64 (k : Int)] 3 _ rfl).1 0)
          have Hk6 := Lib.hid (own_below Hk.out hb7 (Nat.le_refl _))
          have HoV7 := Lib.hid (own_below HoV6.out hb7 (Nat.le_refl _))
          have HP7 := Lib.hid (laterc HP6.out hb7 lPH6)
          have lPI6 : PI < wr.heap.size := Nat.lt_of_lt_of_le lPI hbr.size
          have lPN6 : PI + 1 < wr.heap.size := Nat.lt_of_lt_of_le lPN hbr.size
          have HI7 := Lib.hid (Blk.below HI6.out hb7 lPI6)
          have HN7 := Lib.hid (Blk.below HN6.out hb7 lPN6)
          have lgH7 : gH < (wr.alloc (.cells #[.int .i64 (k : Int)] 3)).heap.size := Nat.lt_of_lt_of_le hgH2 hb7.size
          have hbw7 := hb5.trans (hb6.mono hb5.size)
          clear Hk HoV6 HP6 HI6 HN6 hbw hb7 lPH6 lPI6 lPN6 hgH2
          generalize wr.alloc (.cells #[.int .i64 (k : Int)] 3) = W7 at *
          generalize wr.heap.size = PK at *
          have HO : Hid (Calls Try.prog 45 #[.slice (some ⟨g, o, none⟩) n cap, .slice (some ⟨gH, 0, none⟩) n cap5, .int .i64 (j : Int), .int .i64 (k : Int)] W7 (OwnVecs W7 (othersM l V j k))) := by
            have := others_any L V (some ⟨g, o, none⟩) (some ⟨gH, 0, none⟩) n cap cap5 j k HL.out HVl.out hn Hp8.out W7 ((Hl.out.below hbw7 (Nat.le_refl _)).imp hbw7.size) (own_slrow HoV7.out HVl.out) hlj (by rw [Hl'.out, Hnk.out, Hnp.out]; exact hlk)
            rw [Hl'.out] at this
            exact Lib.hid this
          have hlen : (othersM l V j k).length ≤ 200 := by
            have e : othersM l V j k = othersTo l V j k n ++ othersPart l V j k n 0 := by
              unfold othersM othersTo othersPart
              rw [Hll.out]; simp
            rw [e]
            refine others_len l V j k n 0 hn (fun a => ?_) (by omega)
            by_cases ha : a < L.length
            · rw [Hnode.out a ha]; exact Hp8.out _ (List.getElem_mem ha)
            · unfold nodeAt
              rw [List.getD_eq_getElem?_getD, List.getElem?_eq_none (by rw [Hll.out, ← HL.out]; omega)]
              exact Nat.zero_le 8
          have hba : bestAt l V j k = !((othersM l V j k).any fun v => better v (tellV N (V.getD j default) (portAt N k).port)) := by
            unfold bestAt
            rw [Hnk.out]; rfl
          have hrs := rolesTo_succ l V j k
          have hrv : ∀ h b, roleM N h k b = roleV N h (portAt N k).port b := fun _ _ => rfl
          rw [hba, Hnk.out, hrv] at hrs
          clear hrv
          have Hrs := Lib.hid hrs
          have hj5 : j < V.length := by rw [HVl.out]; exact hlj
          have hHR : W7.rangeAt gH (j * 21) (V.getD j default).vals := by
            obtain ⟨g', o', e', _, hr'⟩ := own_slrow HoV7.out HVl.out (by rw [List.length_map, HVl.out]; omega)
            injection e' with e'; injection e' with e1 e2
            subst e1 e2
            have := hr' j (by rw [List.length_map]; exact hj5)
            rw [Nat.zero_add, List.getElem_map] at this
            rw [List.getD_eq_getElem?_getD, List.getElem?_eq_getElem hj5]
            exact this
          have HR7 := Lib.hid hHR
          clear hHR hrs hba
          generalize othersM l V j k = out at *
          generalize V.getD j default = hasj at *
          generalize portAt N k = M at *
          have hp0 : W7.cell? ⟨g2, o2 + k * 4, none⟩ = some (.int .i64 M.port.prio) := laterc (Hc3.out 0 _ rfl) hbw7 hg2
          have hp1 : W7.cell? ⟨g2, o2 + k * 4 + 1, none⟩ = some (.int .i64 M.port.no) := laterc (Hc3.out 1 _ rfl) hbw7 hg2
          have lg7 : g2 < W7.heap.size := Nat.lt_of_lt_of_le hg2 hbw7.size
          have lPI7 : PI < W7.heap.size := HI7.out.lt
          have lPN7 : PI + 1 < W7.heap.size := HN7.out.lt
          have lPH7 : PH < W7.heap.size := Nat.lt_of_lt_of_le lPH5 hb6.size
          have hf : ∀ (args : Array Value) (W : World), (callFunc 46 args).run Try.prog W = .ok (.enter 46 args) W := fun args W => by kernel_rfl
          have HA : Hid (∀ W, Below W7.heap.size W7 W → ∀ v ∈ out, Calls Try.prog 46 #[.agg v.vals.toArray, .pointer (some ⟨PI + 1, 0, none⟩), .pointer (some ⟨PH, 0, none⟩), .pointer (some ⟨PI, 0, none⟩), .pointer (some ⟨PK, 0, none⟩)] W fun e w' => e = .returned (.bool (better v (tellV N hasj M.port))) ∧ Below W.heap.size W w') := Lib.hid fun W hbW v _ =>
            roles1_any v N hasj M.port g2 o2 np cap2 j k n cap5 (PI + 1) PH PI PK gH hlk hp8 hlj hn W (Nat.lt_of_lt_of_le lg7 hbW.size) (laterc hp0 hbW lg7) (laterc hp1 hbW lg7) (rangeAt_below HN7.out.box.range hbW lPN7) (Nat.lt_of_lt_of_le lPN7 hbW.size)
              (laterc HP7.out hbW lPH7) (Nat.lt_of_lt_of_le lPH7 hbW.size) (laterc (HI7.out.box.cell 0) hbW lPI7) (Nat.lt_of_lt_of_le lPI7 hbW.size) (laterc HK6.out hbW lPK) (Nat.lt_of_lt_of_le lPK hbW.size) (rangeAt_below HR7.out hbW lgH7) (Nat.lt_of_lt_of_le lgH7 hbW.size)
          have Hf := Lib.hid hf
          have hI0 : W7.cell? ⟨PI, 0, none⟩ = some (.int .i64 (j : Int)) := HI7.out.box.cell 0
          have hK0 : W7.cell? ⟨PK, 0, none⟩ = some (.int .i64 (k : Int)) := HK6.out
          have hP0 : W7.cell? ⟨PH, 0, none⟩ = some (.slice (some ⟨gH, 0, none⟩) n cap5) := HP7.out
          clear hf hp0 hp1
          go_upto_region 13 with (first
            | ((with_reducible refine HO.out.mono ?_)
               rintro e w8 ⟨v37, rfl, hown8, hb8⟩
               obtain ⟨A37, cap37, rfl, hcap37, _, hsl37⟩ := own_vecs hown8 rfl
               have hv := has_vec Vec.vals Vec.len (fun v => better v (tellV N hasj M.port)) out out.length rfl _ cap37 46 #[.pointer (some ⟨PI + 1, 0, none⟩), .pointer (some ⟨PH, 0, none⟩), .pointer (some ⟨PI, 0, none⟩), .pointer (some ⟨PK, 0, none⟩)] _ (by omega) hsl37 Hf.out (fun q hq W hbW => HA.out W (hb8.trans (hbW.mono hb8.size)) _ (List.getElem_mem hq)))
            | ((with_reducible refine hv.mono ?_)
               rintro e w9 ⟨rfl, hb9⟩
               skip)
            )
          have hb10 : Below W7.heap.size W7 w9 := hb8.trans (hb9.mono hb8.size)
          have hb11 := hb6.trans (hb10.mono hb6.size)
          have Hk10 := Lib.hid (own_below Hk6.out hb10 (Nat.le_refl _))
          have HoV10 := Lib.hid (own_below HoV7.out hb10 (Nat.le_refl _))
          have HN10 := Lib.hid (rangeAt_below HN7.out.box.range hb10 lPN7)
          have HR10 := Lib.hid (rangeAt_below HR7.out hb10 lgH7)
          have hI1 := laterc hI0 hb10 lPI7
          have hK1 := laterc hK0 hb10 lPK
          have hP1 := laterc hP0 hb10 lPH7
          have lPN10 := Nat.lt_of_lt_of_le lPN7 hb10.size
          have lPI10 := Nat.lt_of_lt_of_le lPI7 hb10.size
          have lPK10 := Nat.lt_of_lt_of_le lPK hb10.size
          have lPH10 := Nat.lt_of_lt_of_le lPH7 hb10.size
          have lgH10 := Nat.lt_of_lt_of_le lgH7 hb10.size
          have lg10 := Nat.lt_of_lt_of_le lg7 hb10.size
          have hp0 : w9.cell? ⟨g2, o2 + k * 4, none⟩ = some (.int .i64 M.port.prio) := laterc (Hc3.out 0 _ rfl) (hbw7.trans (hb10.mono hbw7.size)) hg2
          have hp1 : w9.cell? ⟨g2, o2 + k * 4 + 1, none⟩ = some (.int .i64 M.port.no) := laterc (Hc3.out 1 _ rfl) (hbw7.trans (hb10.mono hbw7.size)) hg2
          clear hown8 hsl37 hb8 hb9 hb10 Hk6 HoV7 HN7 HR7 hI0 hK0 hP0 lPN7 lPI7 lPK lPH7 lgH7 lg7 HA HO HI7 HP7 HK6 hb6 hv hbr hb5
          have h55 : Blk W5 PI 3 [.int .i64 (j : Int)] := hBI.out
          generalize (out.any fun v => better v (tellV N hasj M.port)) = any at *
          refine wp_region_ext_tailm 9 rfl (by kernel_rfl) (by kernel_rfl) (fun _ _ _ h => h) ?_
          simp only [List.take_succ_cons, List.take_zero, List.drop_succ_cons, List.drop_zero]
          go_big_quiet_step (fail)
          go_big_quiet_want
          with_reducible refine quiet_load_rng (b := ?b5) (off := ?o5) (ds := ?ds5) (N.vals (.slice (some ⟨g2, o2, none⟩) np cap2)) ?hx5 ?hr5 ?hu5 ?hd5 ?hi5 ?hk5
          case hx5 => rfl
          case hr5 => rintro _ ⟨y, rfl⟩; exact rangeAt_below HN10.out y.below lPN10
          case hu5 => exact Try.underlying32
          case hd5 => rfl
          case hi5 => exact info32
          go_simp
          go_big_quiet_on
          repeat (go_big_quiet_step (fail))
          go_big_quiet_want
          with_reducible refine quiet_load_rng (b := ?b6) (off := ?o6) (ds := ?ds6) hasj.vals ?hx6 ?hr6 ?hu6 ?hd6 ?hi6 ?hk6
          case hx6 => rfl
          case hr6 => rintro _ ⟨y, rfl⟩; exact rangeAt_below HR10.out y.below lgH10
          case hu6 => exact Try.underlying48
          case hd6 => rfl
          case hi6 => exact info48
          go_simp
          go_big_quiet_on
          repeat (go_big_quiet_step (fail))
          go_big_quiet_step ((go_at_call 48; refine Calls.ext _ (role_any N hasj M.port g2 o2 np cap2 k (!any) hlk hp8 _ ?_ ?_ ?_); (· exact Nat.lt_of_lt_of_le lg10 (Ext.below _).size); (· exact laterc hp0 (Ext.below _) lg10); (· exact laterc hp1 (Ext.below _) lg10)))
          refine wpQuiet_nil ?_
          rintro w' ⟨⟨_, hb12⟩, rfl⟩
          try simp only [] at *
          have Ho13 := Lib.hid (own_below Hk10.out hb12 (Nat.le_refl _))
          have hb13 := hb11.trans (hb12.mono hb11.size)
          refine wpList_build1v (e := 3) (size := 1) (bytes := 8) (intVals [roleV N hasj M.port (!any)]) elemInt ?hxb ?hlb (by decide) ?_
          case hxb => rfl
          case hlb => rfl
          intro W10 hB10 hb14 lB10
          have Ho14 := Lib.hid (own_below Ho13.out hb14 (Nat.le_refl _))
          have hb15 := hb13.trans (hb14.mono hb13.size)
          have HB10 := Lib.hid hB10
          generalize w'.heap.size = R at *
          clear hB10 hb14 Hk10 hb12 Ho13 HoV10 HN10 HR10 hI1 hK1 hP1 hp0 hp1 hb11 hb13
          refine wpList_append_row (v := u9) (base := W5.heap.size) (n := k) (m := 1) (c := 1) (g := R) (intVals (rolesTo l V j k)) (intVals [roleV N hasj M.port (!any)]) elemInt ?hsq ?hxq Ho14.out HB10.out.box.range rfl (intVals_one _) ?hmq ?hbq hb15.size ?hkq
          case hsq => rfl
          case hxq => rfl
          case hmq => unfold maxLen; omega
          case hbq => omega
          intro v' w11 hown hgrew
          have hb16 := hgrew.below hb15
          have hown' : w11.ownsRow W5.heap.size 3 1 v' (k + 1) (intVals (rolesTo l V j (k + 1))) := by
            rw [Hrs.out]
            unfold intVals at hown ⊢
            rw [List.map_append]; exact hown
          have Hown := Lib.hid hown'
          clear hown hown' hgrew HB10 hb15 Ho14 Hrs
          go_wp2_with fail
          go_roundw
          case rel => exact ⟨k + 1, by omega, by go_num, Hown, hb16⟩
          case measure => simp [intOf]; omega
        · have hkn : k = np := by omega
          have hk' := Hk.out
          rw [hkn] at hk'
          have hb6 := hb5.trans (hbr.mono hb5.size)
          have Ho6 := Lib.hid (own_below Ho5.out hbr (Nat.le_refl _))
          have Hrows6 := Lib.hid (Hrows5.out.below hbr (Nat.le_refl _))
          have HoV6 := Lib.hid (own_below HoV5.out hbr (Nat.le_refl _))
          have HPc6 := Lib.hid (HPc5.out.below hbr lPH5)
          have lPH6 : PH < wr.heap.size := Nat.lt_of_lt_of_le lPH5 hbr.size
          rw [← Hrj.out] at hk'
          have hln : np = ((rolesM l).getD j []).length := by rw [Hrj.out, rolesTo_len]
          obtain ⟨A9, c9, rfl⟩ := own_shape hk'
          have HX := Lib.hid (Hrows6.out.snoc (u := .slice A9 np c9) (by rw [← hln]; exact own_base hk' hb5.size))
          clear hk' hkn Hk Hrows6 hln
          go_wp2_with (first
            | ((with_reducible refine wpList_build1v (e := 50) (size := 1) (bytes := 24) [.slice A9 np c9] elemInts ?hxbo ?hlbo (by decide) ?_)
               case hxbo => rfl
               case hlbo => rfl
               intro W10 hB10 hb14 lB10
               refine wpList_append_row (v := u6) (base := w.heap.size) (n := j) (m := 1) (c := 1) (g := wr.heap.size) vs [.slice A9 np c9] elemInts ?hsqo ?hxqo (own_below Ho6.out hb14 (Nat.le_refl _)) hB10.box.range rfl (fun u hu => by rw [List.mem_singleton.1 hu]; rfl) ?hmqo ?hbqo (Nat.le_trans hb6.size hb14.size) ?hkqo
               case hsqo => rfl
               case hxqo => rfl
               case hmqo => unfold maxLen; omega
               case hbqo => omega
               intro v' w11 hown hgrew))
          have Ho14 := own_below Ho6.out hb14 (Nat.le_refl _)
          have hb16 := hgrew.below (hb6.trans (hb14.mono hb6.size))
          have HoV14 := Lib.hid (hgrew.own' Ho14 (own_below HoV6.out hb14 (Nat.le_refl _)) (by decide))
          have HP14 := HPc6.out.below hb14 lPH6
          have HPc14 := Lib.hid (hgrew.blk HP14 (own_ne Ho14 HP14 (by decide)))
          have HX14 := Lib.hid ((HX.out.below hb14 (Nat.le_refl _)).grew hgrew Ho14 (by decide))
          have lPH14 : PH < w11.heap.size := HPc14.out.lt
          have Hown := Lib.hid hown
          clear hown hgrew hB10 hb14 Ho14 HP14 HX HPc6 HoV6 Ho6
          go_wp2_with fail
          go_roundw
          case rel => exact ⟨j + 1, vs ++ [.slice A9 np c9], by omega, by go_num, Hown, HX14, HoV14, HPc14, lPH14, hb16⟩
          case measure => simp [intOf]; omega
    · have hjn : j = n := by omega
      subst hjn
      go_wp2_with fail
      go_ret2
      exact ⟨_, vs, rfl, by rw [Hll.out]; exact Ho.out, by rw [Hll.out]; exact Hrows.out, hbr⟩
end Go.Proofs.Ythpgdipcdllfdaa

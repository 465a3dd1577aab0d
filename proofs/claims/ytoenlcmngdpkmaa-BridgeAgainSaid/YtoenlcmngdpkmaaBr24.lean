/- slices.EqualFunc at rows of sent frames, with BridgeAgain's closure. -/
import Derived.Test.YtoenlcmngdpkmaaBr23
import Derived.Test.YtoenlcmngdpkmaaBr16
namespace Go.Proofs.Ytoenlcmngdpkmaa
open Go.RowKit Go.ChangeShapes Go.WideShapes Go.Deep
set_option maxRecDepth 100000 in
set_option maxHeartbeats 2000000 in
theorem again1_any (i : Nat) (f : Fm) (tv tw : Value) (w : World) (hl : f.tags.length ≤ 1) (h1 : SlAt w 4 tv (tagv f.tags)) (h2 : SlAt w 4 tw (tagv f.tags)) :
    Calls Try.prog 44 #[.agg (SRow.vals ⟨i, f, tv⟩).toArray, .agg (SRow.vals ⟨i, f, tw⟩).toArray] w fun e w' => e = .returned (.bool true) ∧ Below w.heap.size w w' := by
  have H1 := Lib.hid ((St.init w).alloc2 (SRow.vals ⟨i, f, tv⟩) (SRow.vals ⟨i, f, tw⟩) 65 65)
  have HSame : Hid (∀ W, Below w.heap.size w W → Calls Try.prog 42 #[.agg (f.vals tv).toArray, .agg (f.vals tw).toArray] W fun e w' => e = .returned (.bool true) ∧ Below W.heap.size W w') := Lib.hid fun W hW => same_yes f tv tw W hl (h1.below hW) (h2.below hW)
  clear h1 h2
  go_enter Try.func44, Try.ntmps44
  go_upto_region 1 with (fail)
  generalize w.heap.size + 1 = PG at *
  generalize World.alloc _ _ = W1 at *
  have B1 := (H1.out.at 1 rfl : Blk W1 w.heap.size 65 (SRow.vals ⟨i, f, tv⟩)).box
  have B2 := (H1.out.at 0 rfl : Blk W1 PG 65 (SRow.vals ⟨i, f, tw⟩)).box
  have c1 : W1.cell? ⟨w.heap.size, 0, none⟩ = some (.int .i64 (i : Int)) := B1.cell 0
  have c2 : W1.cell? ⟨PG, 0, none⟩ = some (.int .i64 (i : Int)) := B2.cell 0
  have R1 : Hid (W1.rangeAt w.heap.size 1 (f.vals tv)) := Lib.hid (rng_right (a := [.int .i64 (i : Int)]) B1.range)
  have R2 : Hid (W1.rangeAt PG 1 (f.vals tw)) := Lib.hid (rng_right (a := [.int .i64 (i : Int)]) B2.range)
  clear B1 B2
  go_wp2_with (first
    | ((with_reducible refine wpList_load_rngG (ty := 58) (b := ?b1) (o := ?o1) (ds := ?ds1) (f.vals tv) ?hg1 ?hx1 ?hB1 ?hu1 ?hd1 ?hi1 ?hk1)
       case hg1 => rfl
       case hx1 => rfl
       case hB1 => exact R1.out
       case hu1 => exact Try.underlying58
       case hd1 => rfl
       case hi1 => exact info58)
    | ((with_reducible refine wpList_load_rngG (ty := 58) (b := ?b2) (o := ?o2) (ds := ?ds2) (f.vals tw) ?hg2 ?hx2 ?hB2 ?hu2 ?hd2 ?hi2 ?hk2)
       case hg2 => rfl
       case hx2 => rfl
       case hB2 => exact R2.out
       case hu2 => exact Try.underlying58
       case hd2 => rfl
       case hi2 => exact info58)
    | ((with_reducible refine (HSame.out _ H1.out.below).mono ?_)
       rintro e w2 ⟨rfl, hb2⟩
       have H2 := Lib.hid (H1.out.ext hb2)
       clear hb2)
    )
  go_ret
  exact ⟨rfl, H2.out.below⟩
def RowsIn (w : World) (A : Option Addr) (R : List SRow) : Prop := 0 < R.length → ∃ g, A = some ⟨g, 0, none⟩ ∧ g < w.heap.size ∧ ∀ k (hk : k < R.length), w.rangeAt g (k * 22) R[k].vals
set_option maxRecDepth 100000 in
set_option maxHeartbeats 4000000 in
theorem eqf_sent (R Q : List SRow) (n : Nat) (hR : R.length = n) (hQ : Q.length = n) (hres : R.map SRow.res = Q.map SRow.res) (A A' : Option Addr) (c c' : Nat) (w : World) (hn : n ≤ 4611686018427387904) (hr : RowsIn w A R) (hq : RowsIn w A' Q)
    (h1 : ∀ r ∈ R, SlAt w 4 r.tv (tagv r.f.tags)) (h2 : ∀ r ∈ Q, SlAt w 4 r.tv (tagv r.f.tags)) (ht : ∀ r ∈ R, r.f.tags.length ≤ 1) :
    Calls Try.prog 43 #[.slice A n c, .slice A' n c', .func (.func 44) #[] #[]] w fun e w' => e = .returned (.bool true) ∧ Below w.heap.size w w' := by
  have hf : ∀ (args : Array Value) (W : World), (callFunc 44 args).run Try.prog W = .ok (.enter 44 args) W := fun args W => by kernel_rfl
  have HAg : Hid (∀ k (hk : k < R.length) (hk' : k < Q.length) W, Below w.heap.size w W → Calls Try.prog 44 #[.agg R[k].vals.toArray, .agg Q[k].vals.toArray] W fun e w' => e = .returned (.bool true) ∧ Below W.heap.size W w') := Lib.hid fun k hk hk' W hW => by
    have e : R[k].res = Q[k].res := by
      have h3 : (R.map SRow.res)[k]? = (Q.map SRow.res)[k]? := by rw [hres]
      rw [List.getElem?_map, List.getElem?_map, List.getElem?_eq_getElem hk, List.getElem?_eq_getElem hk'] at h3
      exact Option.some.inj h3
    have g1 := (h1 _ (List.getElem_mem hk)).below hW
    have g2 := (h2 _ (List.getElem_mem hk')).below hW
    have g3 := ht _ (List.getElem_mem hk)
    generalize R[k] = r at *
    generalize Q[k] = q at *
    obtain ⟨i, f, tv⟩ := r
    obtain ⟨i', f', tw⟩ := q
    injection e with e1 e2
    subst e1
    subst e2
    exact again1_any i f tv tw W g3 g1 g2
  have HO1 : Hid (∀ k (hk : k < R.length), ∀ v ∈ R[k].vals, v.oneCell' = true) := Lib.hid fun k hk => SRow.one _ (slat_one' (h1 _ (List.getElem_mem hk)))
  have HO2 : Hid (∀ k (hk : k < Q.length), ∀ v ∈ Q[k].vals, v.oneCell' = true) := Lib.hid fun k hk => SRow.one _ (slat_one' (h2 _ (List.getElem_mem hk)))
  have Hr := Lib.hid hr
  have Hq := Lib.hid hq
  have HR := Lib.hid hR
  have HQ := Lib.hid hQ
  clear hr hq h1 h2 ht hR hQ hres
  go_enter Try.func43, Try.ntmps43
  go_wp2_with fail
  go_loopw [7, 8, 9, 17] (fun _ _ _ i wr => ∃ k : Nat, k ≤ n ∧ i = .int .i64 k ∧ Hid (Below w.heap.size w wr)) (fun _ _ _ i _ => n - (intOf i).toNat)
  case atStart => exact ⟨0, by omega, rfl, Lib.hid (Below.refl _ _)⟩
  case round =>
    obtain ⟨k, hk, rfl, Hb⟩ := hrel
    by_cases hlt : k < n
    · have hk1 : k < R.length := by rw [HR.out]; exact hlt
      have hk2 : k < Q.length := by rw [HQ.out]; exact hlt
      obtain ⟨g1, rfl, lg1, hc1⟩ := Hr.out (by omega)
      obtain ⟨g2, rfl, lg2, hc2⟩ := Hq.out (by omega)
      have Hc1 := Lib.hid (rangeAt_below (hc1 k hk1) Hb.out lg1)
      have Hc2 := Lib.hid (rangeAt_below (hc2 k hk2) Hb.out lg2)
      have HA := Lib.hid (HAg.out k hk1 hk2)
      have Ho1 := Lib.hid (HO1.out k hk1)
      have Ho2 := Lib.hid (HO2.out k hk2)
      clear hc1 hc2 HAg HO1 HO2
      generalize R[k] = r at *
      generalize Q[k] = q at *
      go_upto_region 6 with (first
        | ((with_reducible refine wpList_load_rng (ty := 65) (b := ?b4) (o := ?o4) (ds := ?ds4) r.vals ?hx4 ?hB4 ?hu4 ?hd4 ?hi4 ?hk4)
           case hx4 => rfl
           case hB4 => exact Hc1.out
           case hu4 => exact Try.underlying65
           case hd4 => rfl
           case hi4 => exact info65)
        | ((with_reducible refine wpList_store_blk (ty := 65) (b := ?b5) (o := ?o5) (t := 65) zSent r.vals ?hx5 ?hy5 ?hB5 ?ho5 ?hi5 ?h15 ?hk5)
           case hx5 => rfl
           case hy5 => rfl
           case hB5 => exact Blk.new wr zSent 65
           case ho5 => exact Nat.le_refl _
           case hi5 => exact info65
           case h15 => exact Ho1.out
           intro W8 hBW8 hoW8))
      obtain ⟨hb8, l8⟩ := Only.fresh hoW8
      have HB8 := Lib.hid hBW8
      have Hb8 := Lib.hid (Hb.out.trans (hb8.mono Hb.out.size))
      have Hd2 := Lib.hid (rangeAt_below Hc2.out hb8 (Nat.lt_of_lt_of_le lg2 Hb.out.size))
      clear hBW8 hoW8 Hc1 Hc2 hb8
      go_upto_region 7 with (first
        | ((with_reducible refine wpList_load_rng (ty := 65) (b := ?b6) (o := ?o6) (ds := ?ds6) q.vals ?hx6 ?hB6 ?hu6 ?hd6 ?hi6 ?hk6)
           case hx6 => rfl
           case hB6 => exact Hd2.out
           case hu6 => exact Try.underlying65
           case hd6 => rfl
           case hi6 => exact info65)
        | ((with_reducible refine wpList_store_blk (ty := 65) (b := ?b7) (o := ?o7) (t := 65) zSent q.vals ?hx7 ?hy7 ?hB7 ?ho7 ?hi7 ?h17 ?hk7)
           case hx7 => rfl
           case hy7 => rfl
           case hB7 => exact Blk.new W8 zSent 65
           case ho7 => exact Nat.le_refl _
           case hi7 => exact info65
           case h17 => exact Ho2.out
           intro W9 hBW9 hoW9))
      obtain ⟨hb9, l9⟩ := Only.fresh hoW9
      have HB9 := Lib.hid hBW9
      have HB89 := Lib.hid (HB8.out.below hb9 l8)
      have Hb9 := Lib.hid (Hb8.out.trans (hb9.mono Hb8.out.size))
      clear hBW9 hoW9 Hd2 hb9
      go_wp2_with (first
        | ((with_reducible refine wpList_load_box (ty := 65) (b := ?b8) (ds := ?ds8) r.vals ?hx8 ?hB8 ?hu8 ?hd8 ?hi8 ?hk8)
           case hx8 => rfl
           case hB8 => exact (Blk.box HB89.out)
           case hu8 => exact Try.underlying65
           case hd8 => rfl
           case hi8 => exact info65)
        | ((with_reducible refine wpList_load_box (ty := 65) (b := ?b9) (ds := ?ds9) q.vals ?hx9 ?hB9 ?hu9 ?hd9 ?hi9 ?hk9)
           case hx9 => rfl
           case hB9 => exact (Blk.box HB9.out)
           case hu9 => exact Try.underlying65
           case hd9 => rfl
           case hi9 => exact info65)
        | ((with_reducible refine (HA.out _ Hb9.out).mono ?_)
           rintro e w1 ⟨rfl, hb1⟩
           have Hb1 := Lib.hid (Hb9.out.trans (hb1.mono Hb9.out.size))
           clear hb1)
        )
      go_roundw
      case rel => exact ⟨k + 1, by omega, by go_num, Hb1⟩
      case measure => simp [intOf]; omega
    · go_wp2_with fail
      go_ret
      exact ⟨rfl, Hb.out⟩
end Go.Proofs.Ytoenlcmngdpkmaa

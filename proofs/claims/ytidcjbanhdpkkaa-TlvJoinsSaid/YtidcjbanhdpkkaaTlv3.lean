/- slices.Equal on records that are the same; fits; records that came in. -/
import Derived.Test.YtidcjbanhdpkkaaTlv2
import Derived.Test.YtidcjbanhdpkkaaOpenA
namespace Go.Proofs.Ytidcjbanhdpkkaa
open Go.RowKit Go.ChangeShapes Go.WideShapes Go.Deep
theorem tv_eqIn (x : Tv) (d : Nat) (W : World) : (Op.equalIn (d + 1 + 1) 41 (.agg x.vals.toArray) (.agg x.vals.toArray)).run Try.prog W = .ok true W := by
  have u3 := Try.underlying3
  have a3 := Try.isAgg3
  have z3 := Try.sizeOf3
  have u4 := Try.underlying9
  have a4 := Try.isAgg9
  have z4 := Try.sizeOf9
  have hS : Try.prog.underlying 41 = some (.struct (Try.prog.fieldsOf 41)) := by kernel_rfl
  have hp : Try.prog.stoodInHeld 41 = false := by kernel_rfl
  obtain ⟨a, b⟩ := x
  simp only [Tv.vals]
  rw [run_equalIn_agg W (d + 1) 41 _ _ hS hp]
  simp only [Program.fieldsOf, Try.underlying41]
  go_simp
theorem tv_neq (x : Tv) (W : World) : (binOp .neq 41 (.agg x.vals.toArray) (.agg x.vals.toArray)).run Try.prog W = .ok (.bool false) W := by
  rw [run_neq_struct, show (10000 : Nat) = 9998 + 1 + 1 from rfl, tv_eqIn]; rfl
theorem tv_guard (x : Tv) (p q : Operand) (W : World) : (eqGuard .neq 41 p q (.agg x.vals.toArray) (.agg x.vals.toArray)).run Try.prog W = .ok () W := run_eqGuard_agg W .neq _ p q _ _ (by kernel_rfl)
set_option maxRecDepth 100000 in
set_option maxHeartbeats 2000000 in
theorem eqtlv_any (l : List Tv) (A A' : Option Addr) (c c' : Nat) (w : World) (hn : l.length ≤ 9223372036854775807) (hr : SlRow w w.heap.size 2 A (l.map Tv.vals)) (hr' : SlRow w w.heap.size 2 A' (l.map Tv.vals)) :
    Calls Try.prog 17 #[.slice A l.length c, .slice A' l.length c'] w fun e w' => e = .returned (.bool true) ∧ Below w.heap.size w w' := by
  obtain ⟨n, hlen⟩ : ∃ n, l.length = n := ⟨_, rfl⟩
  rw [hlen] at hn ⊢
  have Hr := Lib.hid hr
  have Hr' := Lib.hid hr'
  have Hlen := Lib.hid hlen
  have htl : (l.map Tv.vals).length = n := by rw [List.length_map]; exact hlen
  have Htl := Lib.hid htl
  clear hr hr' hlen htl
  go_enter Try.func17, Try.ntmps17
  go_wp2_with fail
  go_loopw [5, 13] (fun _ i wr => ∃ k : Nat, k ≤ n ∧ i = .int .i64 k ∧ Hid (Below w.heap.size w wr)) (fun _ i _ => n - (intOf i).toNat)
  case atStart => exact ⟨0, by omega, rfl, Lib.hid (Below.refl _ _)⟩
  case round =>
    obtain ⟨k, hk, rfl, Hb⟩ := hrel
    by_cases hlt : k < n
    · have hkx : k < l.length := by rw [Hlen.out]; exact hlt
      have hkt : k < (l.map Tv.vals).length := by rw [Htl.out]; exact hlt
      obtain ⟨g, o, rfl, hg, hc⟩ := Hr.out (by omega)
      obtain ⟨g', o', rfl, hg', hc'⟩ := Hr'.out (by omega)
      have e : (l.map Tv.vals)[k] = l[k].vals := by simp only [List.getElem_map]
      have h1 := hc k hkt
      have h2 := hc' k hkt
      rw [e] at h1 h2
      clear hc hc' e
      generalize l[k] = x at *
      have E : ∀ (W : World), (binOp .neq 41 (.agg x.vals.toArray) (.agg x.vals.toArray)).run Try.prog W = .ok (.bool false) W := fun W => tv_neq x W
      have G : ∀ (p q : Operand) (W : World), (eqGuard .neq 41 p q (.agg x.vals.toArray) (.agg x.vals.toArray)).run Try.prog W = .ok () W := fun p q W => tv_guard x p q W
      have H1 := Lib.hid (rangeAt_below h1 Hb.out hg)
      have H2 := Lib.hid (rangeAt_below h2 Hb.out hg')
      have lg1 := Nat.lt_of_lt_of_le hg Hb.out.size
      have lg2 := Nat.lt_of_lt_of_le hg' Hb.out.size
      clear h1 h2
      go_upto_region 6 with (fail)
      refine wp_region_ext (by kernel_rfl) (by kernel_rfl) ?_
      repeat (go_big_quiet_step (fail))
      go_big_quiet_want
      with_reducible refine quiet_load_rng (b := ?b1) (off := ?o1) (ds := ?ds1) x.vals ?hx1 ?hr1 ?hu1 ?hd1 ?hi1 ?hk1
      case hx1 => rfl
      case hr1 => rintro _ ⟨y, rfl⟩; exact rangeAt_below H1.out y.below lg1
      case hu1 => exact Try.underlying41
      case hd1 => rfl
      case hi1 => exact info41
      go_simp
      go_big_quiet_on
      repeat (go_big_quiet_step (fail))
      go_big_quiet_want
      with_reducible refine quiet_load_rng (b := ?b2) (off := ?o2) (ds := ?ds2) x.vals ?hx2 ?hr2 ?hu2 ?hd2 ?hi2 ?hk2
      case hx2 => rfl
      case hr2 => rintro _ ⟨y, rfl⟩; exact rangeAt_below H2.out y.below lg2
      case hu2 => exact Try.underlying41
      case hd2 => rfl
      case hi2 => exact info41
      go_simp
      go_big_quiet_on
      repeat (go_big_quiet_step (fail))
      refine wpQuiet_nil ?_
      rintro w4 ⟨⟨_, hb4⟩, rfl⟩
      try simp only [] at *
      have Hb4 := Lib.hid (Hb.out.trans (hb4.mono Hb.out.size))
      go_wp2_with fail
      go_roundw
      case rel => exact ⟨k + 1, by omega, by go_num, Hb4⟩
      case measure => simp [intOf]; omega
    · go_wp2_with fail
      go_ret
      exact ⟨rfl, Hb.out⟩
set_option maxRecDepth 100000 in
set_option maxHeartbeats 2000000 in
/-- What fits is few. -/
theorem fits_any (L : List Tv) (A : Option Addr) (cap : Nat) (w : World) (hn : L.length ≤ 9223372036854775807) (hr : SlRow w w.heap.size 2 A (L.map Tv.vals)) :
    Calls Try.prog 14 #[.slice A L.length cap] w fun e w' => ∃ b, e = .returned (.bool b) ∧ (b = true → L.length ≤ 40) ∧ Below w.heap.size w w' := by
  obtain ⟨n, hlen⟩ : ∃ n, L.length = n := ⟨_, rfl⟩
  rw [hlen] at hn ⊢
  have Hr := Lib.hid hr
  have Hlen := Lib.hid hlen
  clear hr hlen
  go_enter Try.func14, Try.ntmps14
  go_wp2_with fail
  go_loopw [3, 5, 8] (fun s3 _ i wr => ∃ (k : Nat) (x : Int), k ≤ n ∧ i = .int .i64 k ∧ s3 = .int .i64 x ∧ Hid (Below w.heap.size w wr)) (fun _ _ i _ => n - (intOf i).toNat)
  case atStart => exact ⟨0, 0, by omega, rfl, rfl, Lib.hid (Below.refl _ _)⟩
  case round =>
    obtain ⟨k, x, hk, rfl, rfl, Hb⟩ := hrel
    by_cases hlt : k < n
    · have hkx : k < L.length := by rw [Hlen.out]; exact hlt
      obtain ⟨g, o, rfl, hg, hc⟩ := Hr.out (by rw [List.length_map]; omega)
      have hc1 := hc k (by rw [List.length_map]; exact hkx)
      have e1 : (L.map Tv.vals)[k]'(by rw [List.length_map]; exact hkx) = L[k].vals := by simp
      rw [e1] at hc1
      have Hc1 := Lib.hid (rangeAt_below hc1 Hb.out hg)
      clear hc hc1 e1
      generalize L[k] = t at *
      go_upto_region 5 with (first
        | ((with_reducible refine wpList_load_rng (ty := 41) (b := ?b3) (o := ?o3) (ds := ?ds3) t.vals ?hx3 ?hB3 ?hu3 ?hd3 ?hi3 ?hk3)
           case hx3 => rfl
           case hB3 => exact Hc1.out
           case hu3 => exact Try.underlying41
           case hd3 => rfl
           case hi3 => exact info41)
        | ((with_reducible refine wpList_store_blk (ty := 41) (b := ?b4) (o := ?o4) (t := 41) zTv t.vals ?hx4 ?hy4 ?hB4 ?ho4 ?hi4 ?h14 ?hk4)
           case hx4 => rfl
           case hy4 => rfl
           case hB4 => exact Blk.new wr zTv 41
           case ho4 => exact Nat.le_refl _
           case hi4 => exact info41
           case h14 => exact (Tv.one _)
           intro W4 hBW4 hoW4))
      obtain ⟨hb8, lPE⟩ := Only.fresh hoW4
      have HB4 := Lib.hid (Hb.out.trans (hb8.mono Hb.out.size))
      have c1 : W4.cell? ⟨wr.heap.size, 1, none⟩ = some (.string ⟨t.text.toArray⟩) := (Blk.box hBW4).cell 1
      clear hBW4 hoW4 hb8 Hb Hc1
      go_wp2_with fail
      go_roundw
      case rel => exact ⟨k + 1, _, by omega, by go_num, rfl, HB4⟩
      case measure => simp [intOf]; omega
    · obtain rfl : k = n := by omega
      by_cases h40 : k ≤ 40
      · have h40I : (k : Int) ≤ 40 := by omega
        go_wp2_with fail
        go_ret
        exact ⟨_, rfl, fun _ => h40, Hb.out⟩
      · have h40I : ¬ (k : Int) ≤ 40 := by omega
        go_wp2_with fail
        go_ret
        exact ⟨rfl, Hb.out⟩
theorem cTv : Try.prog.cellsOf 41 = 2 := by kernel_rfl
theorem cTvI : Try.prog.cellsOf 3 = 1 := by kernel_rfl
theorem cTvS : Try.prog.cellsOf 9 = 1 := by kernel_rfl
set_option maxRecDepth 100000 in
theorem trod_tlv {H : Type} {enc : TypeId × Value → H} {w : World} {base : Nat} {sp : Nat → Bool} {hd : Bool} {fuel : Nat} {cs : List Value} {x : DataW H × List MemPlace} (h : DataW.trod enc Try.prog w base sp hd fuel 41 cs = some x) : ∃ b : Tv, cs = b.vals := by
  obtain ⟨xs, n, _, _, hl, hxl, hx⟩ := DataW.trod_struct Try.underlying41 h
  rw [cTv] at hl
  have hxl : xs.length = 2 := hxl
  have h0 : DataW.trod enc Try.prog w base sp hd n 3 ((cs.drop 0).take (Try.prog.cellsOf 3)) = xs[0]? := hx 0 _ rfl
  have h1 : DataW.trod enc Try.prog w base sp hd n 9 ((cs.drop 1).take (Try.prog.cellsOf 9)) = xs[1]? := hx 1 _ rfl
  rw [List.getElem?_eq_getElem (by omega)] at h0 h1
  rw [cTvI] at h0
  rw [cTvS] at h1
  obtain ⟨n0, h0, _⟩ := int_at Try.underlying3 h0
  obtain ⟨⟨⟨s1⟩⟩, h1, _⟩ := DataW.trod_string Try.underlying9 h1
  have h1 := take_one h1
  refine ⟨⟨n0, s1⟩, ?_⟩
  match cs, hl with
  | [c0, c1], _ =>
    simp only [List.getElem?_cons_zero, List.getElem?_cons_succ, Option.some.injEq] at h0 h1
    rw [h0, h1]; rfl
/-- Records that came in. -/
def IsTlvs (w : World) (v : Value) (L : List Tv) : Prop := ∃ A cap, v = .slice A L.length cap ∧ L.length ≤ 9223372036854775807 ∧ SlRow w w.heap.size 2 A (L.map Tv.vals)
set_option maxRecDepth 100000 in
theorem open_tlvs {H : Type} {enc : TypeId × Value → H} {w : World} {r : Reach} {base : Nat} {b0 : Nat} {sp : Nat → Bool} {hd : Bool} {v : Value} {d : DataW H} {ps : List MemPlace}
    (hval : Value.okWide Try.prog w r base 30 v) (h : DataW.Trod enc Try.prog w b0 sp hd 30 v d ps) : ∃ L, IsTlvs w v L := by
  obtain ⟨fuel, h⟩ := h
  obtain ⟨A, L, cap, e, hc, hm, hq, hr⟩ := slice_rows (α := Tv) Try.underlying30 cTv (by omega) Tv.vals (fun _ => True) (fun m cs y h => by
    obtain ⟨b, e⟩ := trod_tlv h
    exact ⟨b, e, trivial⟩) h
  exact ⟨L, A, cap, slice_val Try.underlying30 hval e, hm, hr⟩
end Go.Proofs.Ytidcjbanhdpkkaa

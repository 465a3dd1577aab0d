/- slices.DeleteFunc at entries. -/
import Derived.Test.YtoenlcmngdpkmaaLn3
namespace Go.Proofs.Ytoenlcmngdpkmaa
open Go.RowKit
theorem idxP_spec {α : Type} (p : α → Bool) (xs : List α) : (∃ k, ∃ hk : k < xs.length, idxP p xs = (k : Int) ∧ p xs[k] = true ∧ ∀ j (hj : j < k), p (xs[j]'(by omega)) = false) ∨ (idxP p xs = -1 ∧ ∀ x ∈ xs, p x = false) := by
  unfold idxP
  cases h : xs.any p
  · right
    refine ⟨rfl, fun x hx => ?_⟩
    rw [List.any_eq_false] at h
    have := h x hx
    simpa using this
  · left
    have h0 : xs.findIdx p < xs.length := by
      rw [List.findIdx_lt_length]
      rw [List.any_eq_true] at h
      exact h
    refine ⟨xs.findIdx p, h0, rfl, List.findIdx_getElem, fun j hj => ?_⟩
    have := List.not_of_lt_findIdx hj
    simpa using this
theorem own_take {w : World} {base n cap g size : Nat} {e : TypeId} {xs : List Value} (h : w.ownsRow base e size (.slice (some ⟨g, 0, none⟩) n cap) n xs) {c : Nat} (hc : c ≤ n) : w.ownsRow base e size (.slice (some ⟨g, 0, none⟩) c cap) c (xs.take (c * size)) := by
  have hx : xs.length = n * size := h.1
  have hle : c * size ≤ n * size := Nat.mul_le_mul_right _ hc
  rcases h.2 with ⟨h0, _⟩ | ⟨g', cap', cur, e1, hb, hh, hcc, hm, hs, ht⟩
  · cases h0
  · injection e1 with e1 e2 e3
    injection e1 with e1
    injection e1 with e1
    subst e1 e3
    refine ⟨by rw [List.length_take, hx]; omega, .inr ⟨g, cap, cur, rfl, hb, hh, by omega, hm, hs, ?_⟩⟩
    rw [← ht, List.take_take, Nat.min_eq_left hle]
theorem erows_take (D : List Ent) (c : Nat) : (erows D).take (c * 9) = erows (D.take c) := by
  unfold erows
  induction D generalizing c with
  | nil => simp
  | cons d D ih =>
    cases c with
    | zero => simp
    | succ c =>
      simp only [List.map_cons, List.flatten_cons, List.take_succ_cons]
      rw [List.take_append, List.take_of_length_le (by rw [Ent.len]; omega), Ent.len, show (c + 1) * 9 - 9 = c * 9 by omega, ih]
theorem erows_sets (D : List Ent) {k : Nat} (hk : k < D.length) (x : Ent) : (erows D).take (k * 9) ++ (x.vals ++ (erows D).drop (k * 9 + x.vals.length)) = erows (D.set k x) := by
  unfold erows
  rw [flat_sets (s := 9) (by omega) (fun c hc => by obtain ⟨m, _, rfl⟩ := List.mem_map.1 hc; rfl) (by simpa using hk) _ rfl, List.map_set]
theorem own_cut {w : World} {base n cap g : Nat} {D : List Ent} (h : w.ownsRow base 88 9 (.slice (some ⟨g, 0, none⟩) n cap) n (erows D)) {c : Nat} (hc : c ≤ n) (cs : List Value) (hcs : cs.length = (n - c) * 9) :
    (w.setCells g (c * 9) cs).ownsRow base 88 9 (.slice (some ⟨g, 0, none⟩) c cap) c (erows (D.take c)) := by
  have hx : (erows D).length = n * 9 := h.1
  obtain ⟨L, hB, hL, hW⟩ := own_sets h (o := c * 9) cs (by omega)
  have h2 := own_take (hW _ (hB.set cs (c * 9) hL)) hc
  have e : ((erows D).take (c * 9) ++ (cs ++ (erows D).drop (c * 9 + cs.length))).take (c * 9) = erows (D.take c) := by
    rw [List.take_append_of_le_length (by rw [List.length_take]; omega), List.take_take, Nat.min_self, erows_take]
  rw [e] at h2
  exact h2
theorem filt_succ {α : Type} (p : α → Bool) (es : List α) {q : Nat} (hq : q < es.length) : (es.take (q + 1)).filter (fun e => !p e) = (es.take q).filter (fun e => !p e) ++ if p es[q] = true then [] else [es[q]] := by
  rw [List.take_succ_eq_append_getElem hq, List.filter_append]
  cases h : p es[q] <;> simp [h]
theorem oneEnt : ∀ i z, Try.prog.info? 88 = some i → i.zero = some z → ∀ v ∈ z.cells.toList, v.oneCell' = true := by
  intro i z hi hz v hv
  have h : (Try.prog.info? 88).map (fun i => (i.zero, i.size, i.bytes)) = some (some (.agg #[.int .i64 0, .int .u8 0, .int .u8 0, .int .u8 0, .int .u8 0, .int .u8 0, .int .u8 0, .int .i64 0, .int .i64 0]), 9, 32) := by kernel_rfl
  rw [hi] at h
  simp only [Option.map_some, Option.some.injEq, Prod.mk.injEq] at h
  have h1 : z = .agg zEnt.toArray := Option.some.inj (hz.symm.trans h.1)
  rw [h1] at hv
  have hv' : v ∈ zEnt := hv
  simp only [zEnt, List.mem_cons, List.not_mem_nil, or_false] at hv'
  rcases hv' with rfl | rfl | rfl | rfl | rfl | rfl | rfl | rfl | rfl <;> rfl
def DelPost (w : World) (base g cap : Nat) (out : List Ent) (e : Ending) (w' : World) : Prop := e = .returned (.slice (some ⟨g, 0, none⟩) out.length cap) ∧ w'.ownsRow base 88 9 (.slice (some ⟨g, 0, none⟩) out.length cap) out.length (erows out) ∧ But g w w'
set_option maxRecDepth 100000 in
set_option maxHeartbeats 4000000 in
theorem delf_some (es : List Ent) (p : Ent → Bool) (n g cap base f : Nat) (caps : Array Value) (hlen : es.length = n) (hn : n ≤ 32) (hcap : n ≤ cap) (hcap2 : cap ≤ 9223372036854775807) (w : World)
    (hown : w.ownsRow base 88 9 (.slice (some ⟨g, 0, none⟩) n cap) n (erows es)) (h0 : 0 < n)
    (hf : ∀ (args : Array Value) (W : World), (callFunc f args).run Try.prog W = .ok (.enter f args) W)
    (hp : ∀ e ∈ es, ∀ W, But g w W → Calls Try.prog f (#[.agg e.vals.toArray] ++ caps) W fun e' w' => e' = .returned (.bool (p e)) ∧ Below W.heap.size W w') :
    Calls Try.prog 47 #[.slice (some ⟨g, 0, none⟩) n cap, .func (.func f) #[] caps] w (DelPost w base g cap (es.filter fun e => !p e)) := by
  have hsl : SlRow w w.heap.size 9 (some ⟨g, 0, none⟩) (es.map Ent.vals) := fun _ => by
    obtain ⟨A, c, e, _, hr⟩ := ent_rows hown hlen
    injection e with e1
    subst e1
    obtain ⟨g', e2, _, hg, hk⟩ := hr h0
    refine ⟨g', 0, e2, hg, fun k hk' => ?_⟩
    rw [List.getElem_map, Nat.zero_add]
    exact hk k (by rw [List.length_map] at hk'; exact hk')
  have hI := idx_ent Ent.vals Ent.len p es n hlen (some ⟨g, 0, none⟩) cap f caps w (by omega) hsl hf (fun k hk W hb => hp es[k] (List.getElem_mem hk) W ((But.refl g w).add hb))
  have hgl := (own_lt hown).2
  have HI := Lib.hid hI
  have Hp := Lib.hid hp
  have Hf := Lib.hid hf
  have Hlen := Lib.hid hlen
  have Hown := Lib.hid hown
  rcases idxP_spec p es with ⟨k0, hk0, hx, hpk, hbe⟩ | ⟨hx, hall⟩
  rotate_left
  · rw [hx] at HI
    have hfe : (es.filter fun e => !p e) = es := List.filter_eq_self.2 (fun e he => by rw [hall e he]; rfl)
    rw [hfe]
    clear hI hsl hf hp hlen hown hall hfe hx
    go_enter Try.func47, Try.ntmps47
    go_wp2_with (first
      | ((with_reducible refine HI.out.mono ?_)
         rintro e w1 ⟨rfl, hb1⟩
         skip)
      )
    go_ret
    exact ⟨by rw [Hlen.out]; rfl, by rw [Hlen.out]; exact own_below Hown.out hb1 (Nat.le_refl _), (But.refl g w).add hb1⟩
  rw [hx] at HI
  have h00 : (es.take k0).filter (fun e => !p e) = es.take k0 := List.filter_eq_self.2 (fun e he => by
    rw [List.mem_take_iff_getElem] at he
    obtain ⟨j, hj, rfl⟩ := he
    rw [hbe j (by omega)]; rfl)
  have hst : es.take k0 = (es.take (k0 + 1)).filter (fun e => !p e) := by
    rw [filt_succ p es hk0, if_pos hpk, List.append_nil, h00]
  have Hst := Lib.hid hst
  have hk0n : k0 < n := by omega
  have hne : ((k0 : Int) == -1) = false := by
    rw [beq_eq_false_iff_ne]; omega
  clear hI hsl hf hp hlen hown hx h00 hst hpk hbe hk0
  go_enter Try.func47, Try.ntmps47
  go_upto_region 4 with (first
    | ((with_reducible refine HI.out.mono ?_)
       rintro e w1 ⟨rfl, hb1⟩
       skip)
    )
  have HB1 := Lib.hid ((But.refl g w).add hb1)
  have HO1 := Lib.hid (own_below Hown.out hb1 (Nat.le_refl _))
  clear hb1 Hown HI
  go_wp2_with fail
  go_loopw [5, 6, 7] (fun i j _ wr => ∃ (q c : Nat) (D : List Ent), q ≤ n ∧ j = .int .i64 q ∧ i = .int .i64 c ∧ c < q ∧ Hid (D.length = n) ∧ Hid (D.take c = (es.take q).filter (fun e => !p e) ∧ c = ((es.take q).filter (fun e => !p e)).length) ∧ Hid (D.drop q = es.drop q) ∧ Hid (wr.ownsRow base 88 9 (.slice (some ⟨g, 0, none⟩) n cap) n (erows D)) ∧ Hid (But g w wr)) (fun _ j _ _ => n - (intOf j).toNat)
  case atStart =>
    exact ⟨k0 + 1, k0, es, by omega, by go_num, rfl, by omega, Hlen, Lib.hid ⟨Hst.out, by rw [← Hst.out, List.length_take, Hlen.out]; omega⟩, Lib.hid rfl, HO1, HB1⟩
  case round =>
    clear HO1 HB1 Hst hne
    obtain ⟨q, c, D, hq, rfl, rfl, hcq, HDl, HDt, HDd, HO, HB⟩ := hrel
    by_cases hlq : q < n
    · have hqx : q < es.length := by rw [Hlen.out]; exact hlq
      have hqD : q < D.length := by rw [HDl.out]; exact hlq
      have hDq : D[q] = es[q] := by
        have := congrArg (fun l => l[0]?) HDd.out
        simp only [List.getElem?_drop, Nat.add_zero, List.getElem?_eq_getElem hqx, List.getElem?_eq_getElem hqD] at this
        injection this
      have hrq : wr.rangeAt g (q * 9) es[q].vals := by
        obtain ⟨A, c, e, _, hr⟩ := ent_rows HO.out HDl.out
        injection e with e1
        subst e1
        obtain ⟨g', e2, _, _, hk⟩ := hr h0
        injection e2 with e2
        injection e2 with e2
        subst e2
        have := hk q hqD
        rw [hDq] at this
        exact this
      have hgw : g < wr.heap.size := (own_lt HO.out).2
      have Hrq := Lib.hid hrq
      have hfs := filt_succ p es hqx
      have Hfs := Lib.hid hfs
      have hcl : ∀ W, But g w W → Calls Try.prog f (#[.agg es[q].vals.toArray] ++ caps) W fun e' w' => e' = .returned (.bool (p es[q])) ∧ Below W.heap.size W w' := Hp.out es[q] (List.getElem_mem hqx)
      have Hcl := Lib.hid hcl
      have hdd : D.drop (q + 1) = es.drop (q + 1) := by
        have := congrArg (List.drop 1) HDd.out
        rw [List.drop_drop, List.drop_drop] at this
        exact this
      have Hdd := Lib.hid hdd
      clear hrq hfs hcl hDq hdd
      generalize hee : es[q] = e at *
      clear hee
      go_upto_region 8 with (first
        | ((with_reducible refine wpList_load_rng (ty := 88) (b := ?b3) (o := ?o3) (ds := ?ds3) e.vals ?hx3 ?hB3 ?hu3 ?hd3 ?hi3 ?hk3)
           case hx3 => rfl
           case hB3 => exact Hrq.out
           case hu3 => exact Try.underlying88
           case hd3 => rfl
           case hi3 => exact info88)
        | ((with_reducible refine wpList_store_blk (ty := 88) (b := ?b4) (o := ?o4) (t := 88) zEnt e.vals ?hx4 ?hy4 ?hB4 ?ho4 ?hi4 ?h14 ?hk4)
           case hx4 => rfl
           case hy4 => rfl
           case hB4 => exact Blk.new wr zEnt 88
           case ho4 => exact Nat.le_refl _
           case hi4 => exact info88
           case h14 => exact (Ent.one _)
           intro W4 hBW4 hoW4))
      obtain ⟨hb8, lPE⟩ := Only.fresh hoW4
      have HE : Hid (Blk W4 wr.heap.size 88 e.vals) := hBW4
      have hnePE : wr.heap.size ≠ g := by omega
      have HB4 := Lib.hid (HB.out.add hb8)
      have HO4 := Lib.hid (own_below HO.out hb8 (Nat.le_refl _))
      have HC4 := Lib.hid (Hcl.out W4 HB4.out)
      have hff := Hf.out
      clear hBW4 hoW4 hb8 HB HO Hrq Hcl
      generalize wr.heap.size = PE at *
      cases hpe : p e
      · rw [hpe] at HC4
        have hF : (es.take (q + 1)).filter (fun e => !p e) = (es.take q).filter (fun e => !p e) ++ [e] := by rw [Hfs.out, hpe]; rfl
        have HF := Lib.hid hF
        clear hpe hF Hfs
        go_upto_region 9 with (first
          | ((with_reducible refine wpList_load_box (ty := 88) (b := ?b5) (ds := ?ds5) e.vals ?hx5 ?hB5 ?hu5 ?hd5 ?hi5 ?hk5)
             case hx5 => rfl
             case hB5 => exact HE.out.box
             case hu5 => exact Try.underlying88
             case hd5 => rfl
             case hi5 => exact info88)
          | ((with_reducible refine HC4.out.mono ?_)
             rintro e' w6 ⟨rfl, hb9⟩))
        have HE6 := Lib.hid (Blk.below HE.out hb9 lPE)
        have HB6 := Lib.hid (HB4.out.add hb9)
        have HO6 := Lib.hid (own_below HO4.out hb9 (Nat.le_refl _))
        obtain ⟨L0, hBl, hol, hset⟩ := own_sets HO6.out (o := c * 9) e.vals (by rw [Ent.len]; omega)
        rw [erows_sets D (by rw [HDl.out]; omega) e] at hset
        have Hset := Lib.hid hset
        have HBl := Lib.hid hBl
        clear hset hBl HE HB4 HO4 HC4 hb9 hff
        go_upto_region 10 with (first
          | ((with_reducible refine wpList_load_box (ty := 88) (b := ?b6) (ds := ?ds6) e.vals ?hx6 ?hB6 ?hu6 ?hd6 ?hi6 ?hk6)
             case hx6 => rfl
             case hB6 => exact HE6.out.box
             case hu6 => exact Try.underlying88
             case hd6 => rfl
             case hi6 => exact info88)
          | ((with_reducible refine wpList_store_blk (ty := 88) (b := ?b92) (o := ?o92) (t := 88) L0 e.vals ?hx92 ?hy92 ?hB92 ?ho92 ?hi92 ?h192 ?hk92)
             case hx92 => rfl
             case hy92 => rfl
             case hB92 => exact HBl.out
             case ho92 => exact hol
             case hi92 => exact info88
             case h192 => exact Ent.one _
             intro W8 hS8 hO8))
        have HO8 := Lib.hid (Hset.out W8 hS8)
        have HB8 := Lib.hid (HB6.out.only hO8)
        have HD2 : Hid ((D.set c e).length = n) := Lib.hid (by rw [List.length_set]; exact HDl.out)
        have HDt2 : Hid ((D.set c e).take (c + 1) = (es.take (q + 1)).filter (fun e => !p e) ∧ c + 1 = ((es.take (q + 1)).filter (fun e => !p e)).length) := Lib.hid (by
          rw [HF.out, ← HDt.out.1]
          refine ⟨?_, ?_⟩
          · rw [List.take_succ_eq_append_getElem (by rw [List.length_set, HDl.out]; omega), List.getElem_set_self, List.take_set_of_le (Nat.le_refl c)]
          · rw [List.length_append, List.length_take, HDl.out]; simp; omega)
        have HDd2 : Hid ((D.set c e).drop (q + 1) = es.drop (q + 1)) := Lib.hid (by rw [List.drop_set_of_lt (by omega)]; exact Hdd.out)
        clear hS8 hO8 Hset HBl HB6 HO6 HE6 HF HDl HDt HDd Hdd
        go_wp2_with fail
        go_roundw
        case rel => exact ⟨q + 1, c + 1, D.set c e, by omega, by go_num, by go_num, by omega, HD2, HDt2, HDd2, HO8, HB8⟩
        case measure => simp [intOf]; omega
      · rw [hpe] at HC4
        have hF : (es.take (q + 1)).filter (fun e => !p e) = (es.take q).filter (fun e => !p e) := by rw [Hfs.out, hpe]; simp
        have HF := Lib.hid hF
        clear hpe hF Hfs
        go_upto_region 6 with (first
          | ((with_reducible refine wpList_load_box (ty := 88) (b := ?b7) (ds := ?ds7) e.vals ?hx7 ?hB7 ?hu7 ?hd7 ?hi7 ?hk7)
             case hx7 => rfl
             case hB7 => exact HE.out.box
             case hu7 => exact Try.underlying88
             case hd7 => rfl
             case hi7 => exact info88)
          | ((with_reducible refine HC4.out.mono ?_)
             rintro e' w6 ⟨rfl, hb9⟩))
        have HB6 := Lib.hid (HB4.out.add hb9)
        have HO6 := Lib.hid (own_below HO4.out hb9 (Nat.le_refl _))
        have HDt2 : Hid (D.take c = (es.take (q + 1)).filter (fun e => !p e) ∧ c = ((es.take (q + 1)).filter (fun e => !p e)).length) := Lib.hid (by rw [HF.out]; exact HDt.out)
        clear HB4 HO4 HC4 hb9 HE HF HDt HDd hff
        go_wp2_with fail
        go_roundw
        case rel => exact ⟨q + 1, c, D, by omega, by go_num, rfl, by omega, HDl, HDt2, Hdd, HO6, HB6⟩
        case measure => simp [intOf]; omega
    · obtain rfl : n = q := by omega
      have hth : wr.there g (c * 9) ((n - c) * 9) := fun j hj => by
        obtain ⟨L, hB, hL, _⟩ := own_sets HO.out (o := 0) (List.replicate (n * 9) undef) (by simp)
        rw [List.length_replicate] at hL
        exact hB.box.there (c * 9) (by omega : c * 9 + (n - c) * 9 ≤ L.length) j hj
      obtain ⟨Lz, hLz, _, hclr⟩ := run_clear_rows elemEnt oneEnt 0 wr g (c * 9) (n - c) (cap - c) (by omega) hth
      have hclr' : ∀ ty, (Builtin.clear_ #[84] ty #[.slice (some ⟨g, c * 9, none⟩) (n - c) (cap - c)]).run Try.prog wr = .ok (.tuple #[]) (wr.setCells g (c * 9) Lz) := fun ty => hclr
      have HO2 := Lib.hid (own_cut HO.out (Nat.le_of_lt hcq) Lz hLz)
      have HB2 := Lib.hid (HB.out.only (Only.setCells Lz (c * 9) ⟨rfl, rfl, rfl, rfl, fun _ _ => rfl⟩))
      have hfl : (es.filter fun e => !p e).length = c := by
        rw [HDt.out.2, List.take_of_length_le (by rw [Hlen.out]; exact Nat.le_refl _)]
      have hfe : D.take c = es.filter fun e => !p e := by
        rw [HDt.out.1, List.take_of_length_le (by rw [Hlen.out]; exact Nat.le_refl _)]
      have Hfl := Lib.hid hfl
      have Hfe := Lib.hid hfe
      have i1 : (0 : Int) ≤ (c : Int) := by omega
      have i2 : (c : Int) ≤ (n : Int) := by omega
      have i3 : (n : Int) ≤ (cap : Int) := by omega
      have i4 : c ≠ cap := by omega
      clear hclr hfl hfe HDt HDd HDl HO HB hth
      have HC := Lib.hid hclr'
      clear hclr'
      go_upto_region 11 with (fail)
      have hcl2 := HC.out
      go_upto_region 12 with (fail)
      generalize wr.setCells g (c * 9) Lz = W9 at *
      clear hcl2 HC
      go_wp2_with fail
      go_ret
      exact ⟨by rw [Hfl.out]; rfl, by rw [Hfl.out, ← Hfe.out]; exact HO2.out, HB2.out⟩
end Go.Proofs.Ytoenlcmngdpkmaa

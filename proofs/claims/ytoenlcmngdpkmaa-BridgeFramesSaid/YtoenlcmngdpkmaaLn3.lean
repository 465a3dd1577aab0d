/- The table of addresses: Len; slices.IndexFunc at entries; clear. -/
import Derived.Test.YtoenlcmngdpkmaaLn2
namespace Go.Proofs.Ytoenlcmngdpkmaa
open Go.RowKit
def lenTo (es : List Ent) (t age : Int) (k : Nat) : Nat := ((es.take k).filter fun e => e.on t age).length
theorem lenTo_succ (es : List Ent) (t age : Int) {k : Nat} (hk : k < es.length) : lenTo es t age (k + 1) = lenTo es t age k + if es[k].on t age = true then 1 else 0 := by
  unfold lenTo
  rw [List.take_succ_eq_append_getElem hk, List.filter_append, List.length_append]
  cases h : es[k].on t age <;> simp [h]
theorem lenTo_le (es : List Ent) (t age : Int) (k : Nat) : lenTo es t age k ≤ k := by
  unfold lenTo
  exact Nat.le_trans (List.length_filter_le _ _) (by rw [List.length_take]; omega)
theorem lenTo_end (es : List Ent) (t age : Int) : lenTo es t age es.length = lenM es t age := by
  unfold lenTo lenM; rw [List.take_length]
set_option maxRecDepth 100000 in
set_option maxHeartbeats 4000000 in
theorem len_any (es : List Ent) (T base : Nat) (age now : Int) (sv : Value) (t : Int) (w : World) (h : TabIn w base T age now sv es) (h32 : es.length ≤ 32) (htm : ∀ e ∈ es, 0 ≤ e.tm ∧ e.tm ≤ 1099511627776) (ht : 0 ≤ t) (ht2 : t ≤ 1099511627776) :
    Calls Try.prog 19 #[.pointer (some ⟨T, 0, none⟩), .int .i64 t] w fun e w' => e = .returned (.int .i64 (lenM es t age : Nat)) ∧ Below w.heap.size w w' := by
  obtain ⟨A, cap, rfl, hcap, hrow⟩ := ent_rows h.row rfl
  have hcT : w.cell? ⟨T, 2, none⟩ = some (.slice A es.length cap) := h.blk.box.cell 2
  have HcA0 : Hid (w.cell? ⟨T, 0, none⟩ = some (.int .i64 age)) := Lib.hid (h.blk.box.cell 0)
  have hT := h.lt
  have Hrow := Lib.hid hrow
  have Htm := Lib.hid htm
  obtain ⟨n, hn⟩ : ∃ n, n = es.length := ⟨_, rfl⟩
  have Hn := Lib.hid hn
  rw [← hn] at hcT hcap h32
  clear hrow h htm hn
  go_enter Try.func19, Try.ntmps19
  go_wp2_with fail
  go_loopw [5, 7, 13] (fun c _ i wr => ∃ k : Nat, k ≤ n ∧ i = .int .i64 k ∧ c = .int .i64 (lenTo es t age k : Nat) ∧ Hid (Below w.heap.size w wr)) (fun _ _ i _ => n - (intOf i).toNat)
  case atStart => exact ⟨0, by omega, rfl, rfl, Lib.hid (Below.refl _ _)⟩
  case round =>
    obtain ⟨k, hk, rfl, rfl, HB⟩ := hrel
    by_cases hlk : k < n
    · have hkx : k < es.length := by rw [← Hn.out]; exact hlk
      obtain ⟨g, rfl, _, hg, hc⟩ := Hrow.out (by rw [← Hn.out]; omega)
      have Hc1 := Lib.hid (rangeAt_below (hc k hkx) HB.out hg)
      have hte := Htm.out es[k] (List.getElem_mem hkx)
      have hsu := lenTo_succ es t age hkx
      have hle := lenTo_le es t age k
      have Hsu := Lib.hid hsu
      generalize lenTo es t age k = c at *
      generalize he : es[k] = e at *
      clear hc he hsu
      go_upto_region 5 with (first
        | ((with_reducible refine wpList_load_rng (ty := 88) (b := ?b1) (o := ?o1) (ds := ?ds1) e.vals ?hx1 ?hB1 ?hu1 ?hd1 ?hi1 ?hk1)
           case hx1 => rfl
           case hB1 => exact Hc1.out
           case hu1 => exact Try.underlying88
           case hd1 => rfl
           case hi1 => exact info88)
        | ((with_reducible refine wpList_store_blk (ty := 88) (b := ?b2) (o := ?o2) (t := 88) zEnt e.vals ?hx2 ?hy2 ?hB2 ?ho2 ?hi2 ?h12 ?hk2)
           case hx2 => rfl
           case hy2 => rfl
           case hB2 => exact Blk.new wr zEnt 88
           case ho2 => exact Nat.le_refl _
           case hi2 => exact info88
           case h12 => exact (Ent.one _)
           intro W4 hBW4 hoW4))
      obtain ⟨hb8, lPE⟩ := Only.fresh hoW4
      have HE : Hid (Blk W4 wr.heap.size 88 e.vals) := hBW4
      have hct : W4.cell? ⟨wr.heap.size, 8, none⟩ = some (.int .i64 e.tm) := HE.out.box.cell 8
      have HB4 := Lib.hid (HB.out.trans (hb8.mono HB.out.size))
      have hcA := laterc HcA0.out HB4.out hT
      have lT4 : T < W4.heap.size := Nat.lt_of_lt_of_le hT HB4.out.size
      clear hBW4 hoW4 hb8 HB Hc1 HE
      generalize wr.heap.size = PE at *
      have hon : e.on t age = decide (t - e.tm ≤ age) := rfl
      have Hon := Lib.hid hon
      clear hon
      by_cases c3 : t - e.tm ≤ age
      · have hs2 : lenTo es t age (k + 1) = c + 1 := by rw [Hsu.out, Hon.out, if_pos (decide_eq_true c3)]
        have Hs2 := Lib.hid hs2
        clear hs2
        refine wp_region_ext (by kernel_rfl) (by kernel_rfl) ?_
        repeat (go_big_quiet_step (fail))
        refine wpQuiet_nil ?_
        rintro W5 ⟨⟨_, hb9⟩, rfl⟩
        try simp only [] at *
        have HB5 := Lib.hid (HB4.out.trans (hb9.mono HB4.out.size))
        clear HB4 hb9 hct hcA
        go_wp2_with fail
        go_roundw
        case rel => exact ⟨k + 1, by omega, by go_num, by rw [Hs2.out]; go_num, HB5⟩
        case measure => simp [intOf]; omega
      · have c4 : age < t - e.tm := by omega
        have hs2 : lenTo es t age (k + 1) = c := by rw [Hsu.out, Hon.out, if_neg (by simpa using c3)]; rfl
        have Hs2 := Lib.hid hs2
        clear hs2
        refine wp_region_ext (by kernel_rfl) (by kernel_rfl) ?_
        repeat (go_big_quiet_step (fail))
        refine wpQuiet_nil ?_
        rintro W5 ⟨⟨_, hb9⟩, rfl⟩
        try simp only [] at *
        have HB5 := Lib.hid (HB4.out.trans (hb9.mono HB4.out.size))
        clear HB4 hb9 hct hcA c3
        go_wp2_with fail
        go_roundw
        case rel => exact ⟨k + 1, by omega, by go_num, by rw [Hs2.out], HB5⟩
        case measure => simp [intOf]; omega
    · obtain rfl : n = k := by omega
      have hE := lenTo_end es t age
      rw [← Hn.out] at hE
      rw [hE]
      clear hE
      go_wp2_with fail
      go_ret
      exact ⟨rfl, HB.out⟩
set_option maxRecDepth 100000 in
set_option maxHeartbeats 1000000 in
theorem idx_ent {α : Type} (enc : α → List Value) (h9 : ∀ x, (enc x).length = 9) (p : α → Bool) (xs : List α) (n : Nat) (hlen : xs.length = n) (A : Option Addr) (cap f : Nat) (caps : Array Value) (w : World) (hn : n ≤ 4611686018427387904) (hr : SlRow w w.heap.size 9 A (xs.map enc))
    (hf : ∀ (args : Array Value) (W : World), (callFunc f args).run Try.prog W = .ok (.enter f args) W)
    (hp : ∀ (k : Nat) (hk : k < xs.length) (W : World), Below w.heap.size w W → Calls Try.prog f (#[.agg (enc xs[k]).toArray] ++ caps) W fun e w' => e = .returned (.bool (p xs[k])) ∧ Below W.heap.size W w') :
    Calls Try.prog 65 #[.slice A n cap, .func (.func f) #[] caps] w fun e w' => e = .returned (.int .i64 (idxP p xs)) ∧ Below w.heap.size w w' := by
  have Hr := Lib.hid hr
  have Hp := Lib.hid hp
  clear hr hp
  have Hlen := Lib.hid hlen
  clear hlen
  go_enter Try.func65, Try.ntmps65
  go_wp2_with fail
  go_loopw [5, 8] (fun _ i wr => ∃ k : Nat, k ≤ n ∧ i = .int .i64 k ∧ Hid (∀ j (hj : j < xs.length), j < k → p xs[j] = false) ∧ Below w.heap.size w wr) (fun _ i _ => n - (intOf i).toNat)
  case atStart => exact ⟨0, by omega, rfl, Lib.hid (fun j hj h => absurd h (by omega)), Below.refl _ _⟩
  case round =>
    obtain ⟨k, hk, rfl, Hz, hbr⟩ := hrel
    by_cases hlt : k < n
    · have hkx : k < xs.length := by rw [Hlen.out]; exact hlt
      obtain ⟨g, o, rfl, hg, hc⟩ := Hr.out (by rw [List.length_map]; omega)
      have hc1 := hc k (by rw [List.length_map]; exact hkx)
      rw [List.getElem_map] at hc1
      have Hc1 := Lib.hid (rangeAt_below hc1 hbr hg)
      clear hc hc1
      have hpk := Hp.out k hkx _ hbr
      cases hv : p xs[k]
      · rw [hv] at hpk
        have HV := Lib.hid hv
        have Hpk := Lib.hid hpk
        clear hv hpk
        go_wp2_with (first
          | ((with_reducible refine wpList_load_rng (ty := 88) (b := ?b3) (o := ?o3) (ds := ?ds3) (enc xs[k]) ?hx3 ?hB3 ?hu3 ?hd3 ?hi3 ?hk3)
             case hx3 => rfl
             case hB3 => exact Hc1.out
             case hu3 => exact Try.underlying88
             case hd3 => rfl
             case hi3 => rw [h9]; exact info88)
          | ((with_reducible refine Hpk.out.mono ?_)
             rintro e w1 ⟨rfl, hb1⟩))
        have hb2 := hbr.trans (hb1.mono hbr.size)
        go_roundw
        case rel => exact ⟨k + 1, by omega, by go_num, Lib.hid (fun j hj h => by
          by_cases e : j = k
          · subst e; exact HV.out
          · exact Hz.out j hj (by omega)), hb2⟩
        case measure => simp [intOf]; omega
      · rw [hv] at hpk
        have hz : idxP p xs = k := idxP_found p xs k hkx hv (fun j hj => Hz.out j (by omega) hj)
        have HZ := Lib.hid hz
        have Hpk := Lib.hid hpk
        clear hv hpk hz
        go_wp2_with (first
          | ((with_reducible refine wpList_load_rng (ty := 88) (b := ?b4) (o := ?o4) (ds := ?ds4) (enc xs[k]) ?hx4 ?hB4 ?hu4 ?hd4 ?hi4 ?hk4)
             case hx4 => rfl
             case hB4 => exact Hc1.out
             case hu4 => exact Try.underlying88
             case hd4 => rfl
             case hi4 => rw [h9]; exact info88)
          | ((with_reducible refine Hpk.out.mono ?_)
             rintro e w1 ⟨rfl, hb1⟩))
        have hb2 := hbr.trans (hb1.mono hbr.size)
        go_ret
        exact ⟨ret_int HZ.out.symm, hb2⟩
    · have hz : idxP p xs = -1 := idxP_none p xs (fun j hj => Hz.out j hj (by have := Hlen.out; omega))
      have HZ := Lib.hid hz
      clear hz
      go_wp2_with fail
      go_ret
      exact ⟨ret_int HZ.out.symm, hbr⟩
/-- 'clear(s)', s a slice of rows. -/
theorem run_clear_rows {P : Program} {t e : TypeId} {size bytes : Nat} (E : ElemOk P t e size bytes) (hone : ∀ i z, P.info? e = some i → i.zero = some z → ∀ v ∈ z.cells.toList, v.oneCell' = true) (ty : TypeId) (w : World) (b o n c : Nat) (hn : 0 < n)
    (hc : w.there b o (n * size)) :
    ∃ L : List Value, L.length = n * size ∧ (∀ v ∈ L, v.oneCell' = true) ∧ (Builtin.clear_ #[t] ty #[.slice (some ⟨b, o, none⟩) n c]).run P w = .ok (.tuple #[]) (w.setCells b o L) := by
  obtain ⟨ht, i, z, hi, hz, hsz, hby, hzs, hpos⟩ := E
  have hv : ∀ w, (zeroValue e).run P w = .ok z w := (zero_of_info (n := size) (by rw [hi]; simp [hz, hsz])).1
  have hL : (Builtin.zeroCells z.cells n).toList.length = n * size := by simp [Builtin.zeroCells, hzs]
  have h1 : ∀ v ∈ (Builtin.zeroCells z.cells n).toList, v.oneCell' = true := by
    intro v hv'
    simp only [Builtin.zeroCells, Array.toList_map, List.mem_map] at hv'
    obtain ⟨j, _, rfl⟩ := hv'
    have hlt : j % z.cells.size < z.cells.size := Nat.mod_lt _ (by omega)
    refine hone i z hi hz _ ?_
    rw [getElem!_pos z.cells _ hlt]
    simp
  have hst := run_storeCells_cells (P := P) b o (Builtin.zeroCells z.cells n).toList 0 w (fun j hj => (hc j (by rw [hL] at hj; exact hj)).1) (fun j hj => (hc j (by rw [hL] at hj; exact hj)).2) h1
  simp only [Nat.add_zero] at hst
  refine ⟨_, hL, h1, ?_⟩
  obtain ⟨m, rfl⟩ : ∃ m, n = m + 1 := ⟨n - 1, by omega⟩
  simp [Builtin.clear_, run_underlying ht, hv, hst]
end Go.Proofs.Ytoenlcmngdpkmaa

/- tlv: Right, Write. -/
import Derived.Test.YteibhcocldihbaaDoorTlvM
import Derived.Test.YteibhcocldihbaaDoorSb
import Derived.Test.YteibhcocldihbaaDoorMust
import Derived.Test.YteibhcocldihbaaDoorHeldG
import Derived.Test.YteibhcocldihbaaDoorOwn
set_option linter.all false
namespace Go.Proofs.YteibhcocldihbaaDoor
open Go.RowKit
def Tv.vals (t : Tv) : List Value := [.int .i64 t.typ, .string ⟨t.text.toArray⟩]
@[reducible] def zTv : List Value := [.int .i64 0, .string ByteArray.empty]
theorem Tv.one (t : Tv) : ∀ v ∈ t.vals, v.oneCell' = true := fun v hv => by
  simp only [Tv.vals, List.mem_cons, List.not_mem_nil, or_false] at hv
  rcases hv with rfl | rfl <;> rfl
theorem info147 : (Tryd.prog.info? 147).map (·.size) = some 2 := by kernel_rfl
theorem info132 : (Tryd.prog.info? 132).map (·.size) = some 2 := by kernel_rfl
theorem tv_or (k b : Nat) (hb : b < 512) (hk : k < 128) : bits .or .i64 ((512 * k : Nat) : Int) (b : Int) = ((512 * k + b : Nat) : Int) := by
  have hx : 512 * k ||| b = 512 * k + b := by
    have := Nat.two_pow_add_eq_or_of_lt (i := 9) (b := b) hb k
    rw [show (512 : Nat) = 2 ^ 9 by rfl, this]
  have h1 : (BitVec.ofInt 64 ((512 * k : Nat) : Int)).toNat = 512 * k := by rw [BitVec.ofInt_natCast, BitVec.toNat_ofNat]; exact Nat.mod_eq_of_lt (by omega)
  have h2 : (BitVec.ofInt 64 (b : Int)).toNat = b := by rw [BitVec.ofInt_natCast, BitVec.toNat_ofNat]; exact Nat.mod_eq_of_lt (by omega)
  show IntKind.i64.wrap ((BitVec.ofInt 64 ((512 * k : Nat) : Int) ||| BitVec.ofInt 64 (b : Int)).toNat : Int) = _
  rw [BitVec.toNat_or, h1, h2, hx, IntKind.wrap_i64]
  omega
set_option maxRecDepth 100000 in
set_option maxHeartbeats 1000000 in
theorem tlvRight_any (t : Tv) (w : World) :
    Calls Tryd.prog 129 #[.agg t.vals.toArray] w fun e w' => e = .returned (.bool t.okB) ∧ Below w.heap.size w w' := by
  obtain ⟨ty, tx⟩ := t
  simp only [Tv.vals]
  by_cases h1 : 1 ≤ ty
  · by_cases h2 : ty ≤ 127
    · by_cases h3 : tx.length ≤ 511
      · have h3' : (tx.length : Int) ≤ 511 := by omega
        go_enter Tryd.func129, Tryd.ntmps129
        go_wp2_with fail
        go_ret
        exact ⟨by unfold Tv.okB; simp [*], by go_grown⟩
      · have h3' : ¬ (tx.length : Int) ≤ 511 := by omega
        go_enter Tryd.func129, Tryd.ntmps129
        go_wp2_with fail
        go_ret
        exact ⟨by unfold Tv.okB; simp [*] <;> intros <;> omega, by go_grown⟩
    · go_enter Tryd.func129, Tryd.ntmps129
      go_wp2_with fail
      go_ret
      exact ⟨by unfold Tv.okB; simp [*] <;> intros <;> omega, by go_grown⟩
  · go_enter Tryd.func129, Tryd.ntmps129
    go_wp2_with fail
    go_ret
    exact ⟨by unfold Tv.okB; simp [*] <;> intros <;> omega, by go_grown⟩
theorem tvBody_take {L : List Tv} {k : Nat} (h : k < L.length) : tvBody (L.take (k + 1)) = tvBody (L.take k) ++ (L[k]).bytes := by
  rw [List.take_succ_eq_append_getElem h, tvBody_snoc]
theorem tvBody_ok_le (L : List Tv) : ∀ k, k ≤ L.length → (∀ j (hj : j < L.length), j < k → L[j].okB = true) → (tvBody (L.take k)).length ≤ 513 * k
  | 0, _, _ => by simp [tvBody]
  | k + 1, hk, h => by
    rw [tvBody_take (show k < L.length by omega), List.length_append, Tv.bytes_len]
    have := tvBody_ok_le L k (by omega) (fun j hj hjk => h j hj (by omega))
    have h2 := (Tv.ok_iff.1 (h k (by omega) (by omega))).2.2
    omega
set_option maxRecDepth 100000 in
set_option maxHeartbeats 2000000 in
theorem tlvWrite_any (L : List Tv) (A : Option Addr) (cap : Nat) (w : World) (hr : SlRow w w.heap.size 2 A (L.map Tv.vals)) (hn63 : L.length ≤ 100000) :
    Calls Tryd.prog 89 #[.slice A L.length cap] w fun e w' => ((∀ t ∈ L, t.okB = true) → e = .returned (.tuple #[.string ⟨(tvBytes L).toArray⟩, .nilIface])) ∧ ((∃ t ∈ L, t.okB = false) → ∃ g, e = .returned (.tuple #[.string ⟨#[]⟩, .iface 130 (.pointer (some ⟨g, 0, none⟩))])) ∧ Below w.heap.size w w' := by
  obtain ⟨n, hlen⟩ : ∃ n, L.length = n := ⟨_, rfl⟩
  rw [hlen] at hn63 ⊢
  have Hr := Lib.hid hr
  have Hlen := Lib.hid hlen
  have hMust := fun (x : Nat) (hx : x < 65536) W => must_ok x 2 (by decide) (by decide) (by omega) W
  have HM := Lib.hid hMust
  clear hr hlen hMust
  have H1 := Lib.hid (St.init w).sb_new
  go_enter Tryd.func89, Tryd.ntmps89
  go_upto_region 2 with (fail)
  generalize World.alloc _ _ = w1 at *
  generalize hb0 : w.heap.size = b at *
  go_upto_region 3 with (fail)
  go_loopw [5, 6, 9] (fun _ _ i wr => ∃ (k : Nat) (v : Value), k ≤ n ∧ i = .int .i64 k ∧ Hid (∀ j (hj : j < L.length), j < k → L[j].okB = true) ∧ Hid (St b w wr (sb b b v (tvBody (L.take k)) :: []))) (fun _ _ i _ => n - (intOf i).toNat)
  case atStart => exact ⟨0, _, by omega, rfl, Lib.hid (fun j _ h => by omega), H1⟩
  case round =>
    obtain ⟨k, v, hk, rfl, Hok, HS⟩ := hrel
    by_cases hlt : k < n
    · have hkx : k < L.length := by rw [Hlen.out]; exact hlt
      obtain ⟨g, o, rfl, hg, hc⟩ := Hr.out (by rw [List.length_map]; omega)
      have hc1 := hc k (by rw [List.length_map]; exact hkx)
      have e1 : (L.map Tv.vals)[k]'(by rw [List.length_map]; exact hkx) = L[k].vals := by simp
      rw [e1] at hc1
      have Hc1 := Lib.hid (rangeAt_below hc1 HS.out.below hg)
      have hstep := tvBody_take hkx
      have hl1 := tvBody_ok_le L k (by omega) Hok.out
      have hmem : L[k] ∈ L := List.getElem_mem hkx
      have hnext : L[k].okB = true → ∀ j (hj : j < L.length), j < k + 1 → L[j].okB = true := fun h j hj hjk => by
        by_cases e : j = k
        · subst e; exact h
        · exact Hok.out j hj (by omega)
      have Hnext := Lib.hid hnext
      have Hstep := Lib.hid hstep
      have Hmem := Lib.hid hmem
      clear hc hc1 e1 hnext hstep hmem
      generalize L[k] = t at *
      have HT := Lib.hid fun W => tlvRight_any t W
      go_upto_region 5 with (first
        | ((with_reducible refine wpList_load_rng (ty := 147) (b := ?b1) (o := ?o1) (ds := ?ds1) t.vals ?hx1 ?hB1 ?hu1 ?hd1 ?hi1 ?hk1)
           case hx1 => rfl
           case hB1 => exact Hc1.out
           case hu1 => exact Tryd.underlying147
           case hd1 => rfl
           case hi1 => exact info147)
        | ((with_reducible refine wpList_store_blk (ty := 147) (b := ?b2) (o := ?o2) (t := 147) zTv t.vals ?hx2 ?hy2 ?hB2 ?ho2 ?hi2 ?h12 ?hk2)
           case hx2 => rfl
           case hy2 => rfl
           case hB2 => exact Blk.new wr zTv 147
           case ho2 => exact Nat.le_refl _
           case hi2 => exact info147
           case h12 => exact (Tv.one _)
           intro W4 hBW4 hoW4))
      have H4 : Hid (St b w W4 (bk wr.heap.size 147 t.vals :: sb b b v (tvBody (L.take k)) :: [])) := Lib.hid ((HS.out.alloc zTv 147).sets (L' := t.vals) hBW4 hoW4)
      clear hBW4 hoW4 HS
      generalize wr.heap.size = P at *
      have B4 := Lib.hid (Blk.box (H4.out.at 0 rfl))
      cases hto : t.okB
      · have HTo := Lib.hid hto
        clear hto
        go_wp2_with (first
          | ((with_reducible refine wpList_load_box (ty := 147) (b := ?b3) (ds := ?ds3) t.vals ?hx3 ?hB3 ?hu3 ?hd3 ?hi3 ?hk3)
             case hx3 => rfl
             case hB3 => exact B4.out
             case hu3 => exact Tryd.underlying147
             case hd3 => rfl
             case hi3 => exact info147)
          | ((with_reducible refine (HT.out _).mono ?_)
             rintro e w5 ⟨rfl, hb5⟩
             rw [HTo.out]
             have H5 := Lib.hid (H4.out.ext hb5)
             clear hb5))
        go_ret2
        refine ⟨fun h => ?_, fun _ => ⟨_, rfl⟩, ?_⟩
        · have := h t Hmem.out; rw [HTo.out] at this; cases this
        · rw [hb0]; exact H5.out.below.alloc H5.out.le _
      · obtain ⟨a1, a2, a3⟩ := Tv.ok_iff.1 hto
        have HTo := Lib.hid hto
        clear hto
        go_upto_region 7 with (first
          | ((with_reducible refine wpList_load_box (ty := 147) (b := ?b5) (ds := ?ds5) t.vals ?hx5 ?hB5 ?hu5 ?hd5 ?hi5 ?hk5)
             case hx5 => rfl
             case hB5 => exact B4.out
             case hu5 => exact Tryd.underlying147
             case hd5 => rfl
             case hi5 => exact info147)
          | ((with_reducible refine (HT.out _).mono ?_)
             rintro e w5 ⟨rfl, hb5⟩
             rw [HTo.out]
             have H5 := Lib.hid (H4.out.ext hb5)
             clear hb5))
        have hbt : t.bytes = beBytes (512 * t.typ.toNat + t.text.length) 2 ++ t.text := by unfold Tv.bytes; rw [Nat.mul_comm]
        have Hbt := Lib.hid hbt
        clear hbt
        obtain ⟨ty, tx⟩ := t
        simp only [] at a1 a2 a3 Hbt
        obtain ⟨m, rfl⟩ := Int.eq_ofNat_of_zero_le (show 0 ≤ ty by omega)
        rw [Int.toNat_natCast] at Hbt
        have hsh : wrap64 ((m : Int) * 512) = ((512 * m : Nat) : Int) := by unfold wrap64; omega
        have hsh2 : IntKind.i64.wrap ((m : Int) * 512) = ((512 * m : Nat) : Int) := by rw [IntKind.wrap_i64]; omega
        have hor := tv_or m tx.length (by omega) (by omega)
        have HMm := Lib.hid (HM.out (512 * m + tx.length) (by omega))
        have hlb : (beBytes (512 * m + tx.length) 2).length = 2 := beBytes_len _ _
        generalize (512 * m + tx.length) = q at *
        generalize (512 * m : Nat) = p at *
        generalize beBytes q 2 = Bq at *
        have hS0 : w5.cell? ⟨P, 0, none⟩ = some (.int .i64 (m : Int)) ∧ w5.cell? ⟨P, 1, none⟩ = some (.string ⟨tx.toArray⟩) := ⟨H5.out.cell 0, H5.out.cell 1⟩
        clear HT B4 H4 Hc1
        refine wp_region_last (fun X => X.cell? ⟨P, 0, none⟩ = some (.int .i64 (m : Int)) ∧ X.cell? ⟨P, 1, none⟩ = some (.string ⟨tx.toArray⟩)) 11 (by kernel_rfl) hS0 (fun hHeld => ?_)
        refine wpAnyG_takeG 0 (oi := ?o8) ?v8 ?hi8 (by kernel_rfl) (by kernel_rfl) (by decide) (by kernel_rfl) (by kernel_rfl) ?hq8 ?hg8 ?hy8 (by assumption) ?hk8
        case hi8 => (simp only [List.getElem?_toArray, List.getElem?_cons_succ, List.getElem?_cons_zero]; rfl)
        case hq8 => exact fun _ _ _ h => h
        case hg8 => (first | with_unfolding_all rfl | (go_simp; with_unfolding_all rfl))
        case hy8 => (intro X hX; (first | obtain ⟨hXa, hXb, hXc, hXd, hXe⟩ := hX | obtain ⟨hXa, hXb, hXc, hXd⟩ := hX | obtain ⟨hXa, hXb, hXc⟩ := hX | obtain ⟨hXa, hXb⟩ := hX | skip); go_simp; try with_reducible rfl)
        try simp only [Act.put, List.setIfInBounds_toArray, List.set_cons_zero, List.set_cons_succ]
        refine wpAnyG_takeG 3 (oi := ?o9) ?v9 ?hi9 (by kernel_rfl) (by kernel_rfl) (by decide) (by kernel_rfl) (by kernel_rfl) ?hq9 ?hg9 ?hy9 (by assumption) ?hk9
        case hi9 => (simp only [List.getElem?_toArray, List.getElem?_cons_succ, List.getElem?_cons_zero]; rfl)
        case hq9 => exact fun _ _ _ h => h
        case hg9 => (first | with_unfolding_all rfl | (go_simp; with_unfolding_all rfl))
        case hy9 => (intro X hX; (first | obtain ⟨hXa, hXb, hXc, hXd, hXe⟩ := hX | obtain ⟨hXa, hXb, hXc, hXd⟩ := hX | obtain ⟨hXa, hXb, hXc⟩ := hX | obtain ⟨hXa, hXb⟩ := hX | skip); go_simp; try with_reducible rfl)
        try simp only [Act.put, List.setIfInBounds_toArray, List.set_cons_zero, List.set_cons_succ]
        refine wpAnyG_takeG 8 (oi := ?o10) ?v10 ?hi10 (by kernel_rfl) (by kernel_rfl) (by decide) (by kernel_rfl) (by kernel_rfl) ?hq10 ?hg10 ?hy10 (by assumption) ?hk10
        case hi10 => (simp only [List.getElem?_toArray, List.getElem?_cons_succ, List.getElem?_cons_zero]; rfl)
        case hq10 => exact fun _ _ _ h => h
        case hg10 => (first | with_unfolding_all rfl | (go_simp; with_unfolding_all rfl))
        case hy10 => (intro X hX; (first | obtain ⟨hXa, hXb, hXc, hXd, hXe⟩ := hX | obtain ⟨hXa, hXb, hXc, hXd⟩ := hX | obtain ⟨hXa, hXb, hXc⟩ := hX | obtain ⟨hXa, hXb⟩ := hX | skip); go_simp; try with_reducible rfl)
        try simp only [Act.put, List.setIfInBounds_toArray, List.set_cons_zero, List.set_cons_succ]
        refine wpAnyG_takeG 1 (oi := ?o11) ?v11 ?hi11 (by kernel_rfl) (by kernel_rfl) (by decide) (by kernel_rfl) (by kernel_rfl) ?hq11 ?hg11 ?hy11 (by assumption) ?hk11
        case hi11 => (simp only [List.getElem?_toArray, List.getElem?_cons_succ, List.getElem?_cons_zero]; rfl)
        case hq11 => exact fun _ _ _ h => h
        case hg11 => (first | with_unfolding_all rfl | (go_simp; with_unfolding_all rfl))
        case hy11 => (intro X hX; (first | obtain ⟨hXa, hXb, hXc, hXd, hXe⟩ := hX | obtain ⟨hXa, hXb, hXc, hXd⟩ := hX | obtain ⟨hXa, hXb, hXc⟩ := hX | obtain ⟨hXa, hXb⟩ := hX | skip); go_simp; try with_reducible rfl)
        try simp only [Act.put, List.setIfInBounds_toArray, List.set_cons_zero, List.set_cons_succ]
        refine wpAnyG_takeG 4 (oi := ?o12) ?v12 ?hi12 (by kernel_rfl) (by kernel_rfl) (by decide) (by kernel_rfl) (by kernel_rfl) ?hq12 ?hg12 ?hy12 (by assumption) ?hk12
        case hi12 => (simp only [List.getElem?_toArray, List.getElem?_cons_succ, List.getElem?_cons_zero]; rfl)
        case hq12 => exact fun _ _ _ h => h
        case hg12 => (first | with_unfolding_all rfl | (go_simp; with_unfolding_all rfl))
        case hy12 => (intro X hX; (first | obtain ⟨hXa, hXb, hXc, hXd, hXe⟩ := hX | obtain ⟨hXa, hXb, hXc, hXd⟩ := hX | obtain ⟨hXa, hXb, hXc⟩ := hX | obtain ⟨hXa, hXb⟩ := hX | skip); go_simp; try with_reducible rfl)
        try simp only [Act.put, List.setIfInBounds_toArray, List.set_cons_zero, List.set_cons_succ]
        refine wpAnyG_takeG 9 (oi := ?o13) ?v13 ?hi13 (by kernel_rfl) (by kernel_rfl) (by decide) (by kernel_rfl) (by kernel_rfl) ?hq13 ?hg13 ?hy13 (by assumption) ?hk13
        case hi13 => (simp only [List.getElem?_toArray, List.getElem?_cons_succ, List.getElem?_cons_zero]; rfl)
        case hq13 => exact fun _ _ _ h => h
        case hg13 => (first | with_unfolding_all rfl | (go_simp; with_unfolding_all rfl))
        case hy13 => (intro X hX; (first | obtain ⟨hXa, hXb, hXc, hXd, hXe⟩ := hX | obtain ⟨hXa, hXb, hXc, hXd⟩ := hX | obtain ⟨hXa, hXb, hXc⟩ := hX | obtain ⟨hXa, hXb⟩ := hX | skip); go_simp; try with_reducible rfl)
        try simp only [Act.put, List.setIfInBounds_toArray, List.set_cons_zero, List.set_cons_succ]
        refine wpAnyG_takeG 2 (oi := ?o14) ?v14 ?hi14 (by kernel_rfl) (by kernel_rfl) (by decide) (by kernel_rfl) (by kernel_rfl) ?hq14 ?hg14 ?hy14 (by assumption) ?hk14
        case hi14 => (simp only [List.getElem?_toArray, List.getElem?_cons_succ, List.getElem?_cons_zero]; rfl)
        case hq14 => exact fun _ _ _ h => h
        case hg14 => (first | with_unfolding_all rfl | (go_simp; with_unfolding_all rfl))
        case hy14 => (intro X hX; (first | obtain ⟨hXa, hXb, hXc, hXd, hXe⟩ := hX | obtain ⟨hXa, hXb, hXc, hXd⟩ := hX | obtain ⟨hXa, hXb, hXc⟩ := hX | obtain ⟨hXa, hXb⟩ := hX | skip); go_simp; try with_reducible rfl)
        try simp only [Act.put, List.setIfInBounds_toArray, List.set_cons_zero, List.set_cons_succ]
        refine wpAnyG_takeG 5 (oi := ?o15) ?v15 ?hi15 (by kernel_rfl) (by kernel_rfl) (by decide) (by kernel_rfl) (by kernel_rfl) ?hq15 ?hg15 ?hy15 (by assumption) ?hk15
        case hi15 => (simp only [List.getElem?_toArray, List.getElem?_cons_succ, List.getElem?_cons_zero]; rfl)
        case hq15 => exact fun _ _ _ h => h
        case hg15 => (first | with_unfolding_all rfl | (go_simp; with_unfolding_all rfl))
        case hy15 => (intro X hX; (first | obtain ⟨hXa, hXb, hXc, hXd, hXe⟩ := hX | obtain ⟨hXa, hXb, hXc, hXd⟩ := hX | obtain ⟨hXa, hXb, hXc⟩ := hX | obtain ⟨hXa, hXb⟩ := hX | skip); go_simp; try with_reducible rfl)
        try simp only [Act.put, List.setIfInBounds_toArray, List.set_cons_zero, List.set_cons_succ]
        refine wpAnyG_takeG 6 (oi := ?o16) ?v16 ?hi16 (by kernel_rfl) (by kernel_rfl) (by decide) (by kernel_rfl) (by kernel_rfl) ?hq16 ?hg16 ?hy16 (by assumption) ?hk16
        case hi16 => (simp only [List.getElem?_toArray, List.getElem?_cons_succ, List.getElem?_cons_zero]; rfl)
        case hq16 => exact fun _ _ _ h => h
        case hg16 => (first | with_unfolding_all rfl | (go_simp; with_unfolding_all rfl))
        case hy16 => (intro X hX; (first | obtain ⟨hXa, hXb, hXc, hXd, hXe⟩ := hX | obtain ⟨hXa, hXb, hXc, hXd⟩ := hX | obtain ⟨hXa, hXb, hXc⟩ := hX | obtain ⟨hXa, hXb⟩ := hX | skip); go_simp; try with_reducible rfl)
        try simp only [Act.put, List.setIfInBounds_toArray, List.set_cons_zero, List.set_cons_succ]
        refine wpAnyG_one 7 (o := ?o17) (by kernel_rfl) ?hi17 ?hg17 ?hk17
        case hi17 => (simp only [List.getElem?_toArray, List.getElem?_cons_succ, List.getElem?_cons_zero]; rfl)
        case hg17 => rfl
        intro K hK
        go_simp
        refine (HMm.out _).mono ?_
        rintro e w6 ⟨rfl, hb6⟩
        have H6 := Lib.hid (H5.out.drew.ext hb6)
        have hS6 : w6.cell? ⟨P, 0, none⟩ = some (.int .i64 (m : Int)) ∧ w6.cell? ⟨P, 1, none⟩ = some (.string ⟨tx.toArray⟩) := ⟨H6.out.cell 0, H6.out.cell 1⟩
        refine hK.out _ _ (fun _ => hS6) (fun _ => ?_)
        clear hK K hHeld hb6
        have hHeld := hS6
        try simp only [Act.put, List.setIfInBounds_toArray, List.set_cons_zero, List.set_cons_succ]
        have hcat : ¬ 9223372036854775807 < 2 + tx.length := by omega
        refine wpAnyG_takeG 10 (oi := ?o19) ?v19 ?hi19 (by kernel_rfl) (by kernel_rfl) (by decide) (by kernel_rfl) (by kernel_rfl) ?hq19 ?hg19 ?hy19 (by assumption) ?hk19
        case hi19 => (simp only [List.getElem?_toArray, List.getElem?_cons_succ, List.getElem?_cons_zero]; rfl)
        case hq19 => exact fun _ _ _ h => h
        case hg19 => (first | with_unfolding_all rfl | (go_simp; with_unfolding_all rfl))
        case hy19 => (intro X hX; (first | obtain ⟨hXa, hXb, hXc, hXd, hXe⟩ := hX | obtain ⟨hXa, hXb, hXc, hXd⟩ := hX | obtain ⟨hXa, hXb, hXc⟩ := hX | obtain ⟨hXa, hXb⟩ := hX | skip); go_simp; try with_reducible rfl)
        try simp only [Act.put, List.setIfInBounds_toArray, List.set_cons_zero, List.set_cons_succ]
        refine wpAnyG_one 11 (o := ?o20) (by kernel_rfl) ?hi20 ?hg20 ?hk20
        case hi20 => (simp only [List.getElem?_toArray, List.getElem?_cons_succ, List.getElem?_cons_zero]; rfl)
        case hg20 => rfl
        intro K hK
        go_simp
        refine (bwrite_st H6.out.swap (Others.cons (bk_other (by decide)) Others.nil) (Bq ++ tx) (by rw [List.length_append]; omega)).mono ?_
        rintro e w7 ⟨rfl, v', h7⟩
        have h7 := h7.swap.tail
        rw [← Hbt.out, ← Hstep.out] at h7
        have H7 := Lib.hid h7
        refine hK.out _ _ (fun h => absurd rfl h) (fun _ => ?_)
        refine wpAnyG_done (by kernel_rfl) ?_ _
        clear hK K hHeld hS6 H6 h7
        go_wp2_with fail
        go_roundw
        case rel => exact ⟨k + 1, v', by omega, by go_num, Lib.hid (Hnext.out HTo.out), H7⟩
        case measure => simp [intOf]; omega
    · obtain rfl : k = n := by omega
      have ht : L.take k = L := List.take_of_length_le (by rw [Hlen.out]; exact Nat.le_refl _)
      rw [ht] at HS
      have hlB : (tvBody L).length ≤ 513 * k := by
        have := tvBody_ok_le L k (by rw [Hlen.out]; exact Nat.le_refl _) Hok.out
        rw [ht] at this; exact this
      have hall : ∀ t ∈ L, t.okB = true := fun t ht => by
        obtain ⟨j, hj, rfl⟩ := List.getElem_of_mem ht
        exact Hok.out j hj (by rw [Hlen.out] at hj; exact hj)
      have Hall := Lib.hid hall
      have Hw : Hid (tvBytes L = tvBody L ++ [0, 0]) := Lib.hid rfl
      clear hall ht hlt
      generalize tvBody L = BL at *
      go_wp2_with fail
      refine (bstring_st HS.out Others.nil).mono ?_
      rintro e w6 ⟨rfl, v', h6⟩
      have H6 := Lib.hid h6
      clear h6
      go_wp2_with fail
      go_ret2
      refine ⟨fun _ => by rw [Hw.out]; rfl, fun ⟨t, htm, hf⟩ => ?_, by rw [hb0]; exact H6.out.below⟩
      rw [Hall.out t htm] at hf; cases hf
end Go.Proofs.YteibhcocldihbaaDoor

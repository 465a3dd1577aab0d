/- region.Right, region.Inst. -/
import Derived.Test.YtjekdodboihfhaaRgM
import Derived.Test.YtjekdodboihfhaaMd5
import Derived.Test.YtjekdodboihfhaaItems
set_option linter.all false
namespace Go.Proofs.Ytjekdodboihfhaa
open Go.RowKit
def Sp.vals (x : Sp) : List Value := [.int .i64 x.lo, .int .i64 x.hi, .int .i64 x.inst]
@[reducible] def zSp : List Value := [.int .i64 0, .int .i64 0, .int .i64 0]
theorem Sp.len (x : Sp) : x.vals.length = 3 := rfl
theorem Sp.one (x : Sp) : ∀ v ∈ x.vals, v.oneCell' = true := fun v hv => by
  simp only [Sp.vals, List.mem_cons, List.not_mem_nil, or_false] at hv
  rcases hv with rfl | rfl | rfl <;> rfl
theorem info37 : (Try.prog.info? 37).map (·.size) = some 3 := by kernel_rfl
theorem sp_at {w : World} {g o : Nat} {L : List Sp} {B : Nat} (h : SlRow w B 3 (some ⟨g, o, none⟩) (L.map Sp.vals)) (k : Nat) (hk : k < L.length) : g < B ∧ w.rangeAt g (o + k * 3) (L.getD k default).vals := by
  obtain ⟨g', o', e, hg, hr⟩ := h (by rw [List.length_map]; omega)
  injection e with e
  injection e with e1 e2
  subst e1 e2
  have := hr k (by rw [List.length_map]; exact hk)
  have e : (L.map Sp.vals)[k]'(by rw [List.length_map]; exact hk) = (L.getD k default).vals := by simp [List.getD, hk]
  rw [e] at this
  exact ⟨hg, this⟩
theorem drop_at (l : List Sp) (k : Nat) (hk : k < l.length) : l.drop k = l.getD k default :: l.drop (k + 1) := by
  rw [List.drop_eq_getElem_cons hk]
  simp [List.getD, hk]
theorem right_no {z : Int} {x : Sp} {r : List Sp} (h : x.lo ≤ z ∨ x.hi < x.lo ∨ 4094 < x.hi ∨ x.inst < 0 ∨ 64 < x.inst) : rightF z (x :: r) = false := by
  cases e : rightF z (x :: r)
  · rfl
  · have := Sp.ok_iff.1 (rightF_cons.1 e).1
    omega
theorem right_on {z : Int} {x : Sp} {r : List Sp} (h1 : z < x.lo) (h2 : x.lo ≤ x.hi) (h3 : x.hi ≤ 4094) (h4 : 0 ≤ x.inst) (h5 : x.inst ≤ 64) : rightF z (x :: r) = rightF x.hi r := by
  have : x.okB z = true := Sp.ok_iff.2 ⟨h1, h2, h3, h4, h5⟩
  simp [rightF, this]
set_option maxRecDepth 100000 in
set_option maxHeartbeats 4000000 in
theorem right_any (l : List Sp) (A : Option Addr) (cap : Nat) (w : World) (hn : l.length ≤ 100000) (hr : SlRow w w.heap.size 3 A (l.map Sp.vals)) :
    Calls Try.prog 17 #[.slice A l.length cap] w fun e w' => e = .returned (.bool (rightF 0 l)) ∧ Below w.heap.size w w' := by
  obtain ⟨n, hlen⟩ : ∃ n, l.length = n := ⟨_, rfl⟩
  rw [hlen] at hn ⊢
  have Hr := Lib.hid hr
  have Hlen := Lib.hid hlen
  obtain ⟨R, hR⟩ : ∃ R, rightF 0 l = R := ⟨_, rfl⟩
  have HR := Lib.hid hR
  rw [hR]
  clear hr hlen hR
  go_enter Try.func17, Try.ntmps17
  go_wp2_with fail
  go_loopw [3, 8] (fun s3 s8 wr => ∃ (k : Nat) (z : Int), k ≤ n ∧ s3 = .int .i64 z ∧ s8 = .int .i64 (k : Int) ∧ Hid (rightF z (l.drop k) = R) ∧ Hid (Below w.heap.size w wr)) (fun _ i _ => n - (intOf i).toNat)
  case atStart => exact ⟨0, 0, by omega, rfl, rfl, HR, Lib.hid (Below.refl _ _)⟩
  case round =>
    obtain ⟨k, z, hk0, rfl, rfl, Hst, Hb⟩ := hrel
    clear HR
    by_cases hlt : k < n
    · skip
      have hI : (k : Int) < n := by omega
      have hkx : k < l.length := by rw [Hlen.out]; exact hlt
      obtain ⟨g, o, rfl, hg, _⟩ := Hr.out (by rw [List.length_map]; omega)
      have Hc1 := Lib.hid (rangeAt_below (sp_at Hr.out k hkx).2 Hb.out hg)
      have hst := Hst.out
      rw [drop_at l k hkx] at hst
      have Hst := Lib.hid hst
      clear hst hkx
      generalize l.getD k default = a at *
      go_upto_region 5 with (first
        | ((with_reducible refine wpList_load_rng (ty := 37) (b := ?b1) (o := ?o1) (ds := ?ds1) a.vals ?hx1 ?hB1 ?hu1 ?hd1 ?hi1 ?hk1)
           case hx1 => rfl
           case hB1 => exact Hc1.out
           case hu1 => exact Try.underlying37
           case hd1 => rfl
           case hi1 => exact info37)
        | ((with_reducible refine wpList_store_blk (ty := 37) (b := ?b2) (o := ?o2) (t := 37) zSp a.vals ?hx2 ?hy2 ?hB2 ?ho2 ?hi2 ?h12 ?hk2)
           case hx2 => rfl
           case hy2 => rfl
           case hB2 => exact Blk.new wr zSp 37
           case ho2 => exact Nat.le_refl _
           case hi2 => exact info37
           case h12 => exact (Sp.one _)
           intro W4 hBW4 hoW4))
      obtain ⟨hb8, lPE⟩ := Only.fresh hoW4
      have HB4 := Lib.hid (Hb.out.trans (hb8.mono Hb.out.size))
      have c0 : W4.cell? ⟨wr.heap.size, 0, none⟩ = some (.int .i64 a.lo) := (Blk.box hBW4).cell 0
      have c1 : W4.cell? ⟨wr.heap.size, 1, none⟩ = some (.int .i64 a.hi) := (Blk.box hBW4).cell 1
      have c2 : W4.cell? ⟨wr.heap.size, 2, none⟩ = some (.int .i64 a.inst) := (Blk.box hBW4).cell 2
      clear hBW4 hoW4 hb8 Hb Hc1 hg
      generalize wr.heap.size = Q at *
      by_cases q0 : a.lo ≤ z
      · have hR2 : R = false := by rw [← Hst.out]; exact right_no (.inl q0)
        subst hR2
        clear Hst
        go_wp2_with fail
        go_ret
        exact ⟨rfl, HB4.out⟩
      · skip
        by_cases q1 : a.hi < a.lo
        · have hR2 : R = false := by rw [← Hst.out]; exact right_no (.inr (.inl q1))
          subst hR2
          clear Hst
          go_wp2_with fail
          go_ret
          exact ⟨rfl, HB4.out⟩
        · skip
          by_cases q2 : 4094 < a.hi
          · have hR2 : R = false := by rw [← Hst.out]; exact right_no (.inr (.inr (.inl q2)))
            subst hR2
            clear Hst
            go_wp2_with fail
            go_ret
            exact ⟨rfl, HB4.out⟩
          · skip
            by_cases q3 : a.inst < 0
            · have hR2 : R = false := by rw [← Hst.out]; exact right_no (.inr (.inr (.inr (.inl q3))))
              subst hR2
              clear Hst
              go_wp2_with fail
              go_ret
              exact ⟨rfl, HB4.out⟩
            · skip
              by_cases q4 : 64 < a.inst
              · have hR2 : R = false := by rw [← Hst.out]; exact right_no (.inr (.inr (.inr (.inr q4))))
                subst hR2
                clear Hst
                go_wp2_with fail
                go_ret
                exact ⟨rfl, HB4.out⟩
              · skip
                have hs2 := Hst.out
                rw [right_on (by omega) (by omega) (by omega) (by omega) (by omega)] at hs2
                have Hs2 := Lib.hid hs2
                clear hs2 Hst
                go_wp2_with fail
                go_roundw
                case rel => exact ⟨k + 1, a.hi, by omega, rfl, by go_num, Hs2, HB4⟩
                case measure => simp [intOf]; omega
    · obtain rfl : k = n := by omega
      have hI : ¬ (k : Int) < k := by omega
      have hR : R = true := by rw [← Hst.out, ← Hlen.out, List.drop_length]; rfl
      subst hR
      go_wp2_with fail
      go_ret
      exact ⟨rfl, Hb.out⟩
set_option maxRecDepth 100000 in
set_option maxHeartbeats 4000000 in
theorem inst_any (l : List Sp) (v : Int) (A : Option Addr) (cap : Nat) (w : World) (hn : l.length ≤ 100000) (hr : SlRow w w.heap.size 3 A (l.map Sp.vals)) :
    Calls Try.prog 20 #[.slice A l.length cap, .int .i64 v] w fun e w' => e = .returned (.int .i64 (instM l v)) ∧ Below w.heap.size w w' := by
  obtain ⟨n, hlen⟩ : ∃ n, l.length = n := ⟨_, rfl⟩
  rw [hlen] at hn ⊢
  have Hr := Lib.hid hr
  have Hlen := Lib.hid hlen
  obtain ⟨R, hR⟩ : ∃ R, instM l v = R := ⟨_, rfl⟩
  have HR := Lib.hid hR
  rw [hR]
  clear hr hlen hR
  go_enter Try.func20, Try.ntmps20
  go_wp2_with fail
  go_loopw [9] (fun s8 wr => ∃ (k : Nat), k ≤ n ∧ s8 = .int .i64 (k : Int) ∧ Hid (instM (l.drop k) v = R) ∧ Hid (Below w.heap.size w wr)) (fun i _ => n - (intOf i).toNat)
  case atStart => exact ⟨0, by omega, rfl, HR, Lib.hid (Below.refl _ _)⟩
  case round =>
    obtain ⟨k, hk0, rfl, Hst, Hb⟩ := hrel
    clear HR
    by_cases hlt : k < n
    · skip
      have hI : (k : Int) < n := by omega
      have hkx : k < l.length := by rw [Hlen.out]; exact hlt
      obtain ⟨g, o, rfl, hg, _⟩ := Hr.out (by rw [List.length_map]; omega)
      have Hc1 := Lib.hid (rangeAt_below (sp_at Hr.out k hkx).2 Hb.out hg)
      have hst := Hst.out
      rw [drop_at l k hkx] at hst
      have Hst := Lib.hid hst
      clear hst hkx
      generalize l.getD k default = a at *
      go_upto_region 4 with (first
        | ((with_reducible refine wpList_load_rng (ty := 37) (b := ?b3) (o := ?o3) (ds := ?ds3) a.vals ?hx3 ?hB3 ?hu3 ?hd3 ?hi3 ?hk3)
           case hx3 => rfl
           case hB3 => exact Hc1.out
           case hu3 => exact Try.underlying37
           case hd3 => rfl
           case hi3 => exact info37)
        | ((with_reducible refine wpList_store_blk (ty := 37) (b := ?b4) (o := ?o4) (t := 37) zSp a.vals ?hx4 ?hy4 ?hB4 ?ho4 ?hi4 ?h14 ?hk4)
           case hx4 => rfl
           case hy4 => rfl
           case hB4 => exact Blk.new wr zSp 37
           case ho4 => exact Nat.le_refl _
           case hi4 => exact info37
           case h14 => exact (Sp.one _)
           intro W4 hBW4 hoW4))
      obtain ⟨hb8, lPE⟩ := Only.fresh hoW4
      have HB4 := Lib.hid (Hb.out.trans (hb8.mono Hb.out.size))
      have c0 : W4.cell? ⟨wr.heap.size, 0, none⟩ = some (.int .i64 a.lo) := (Blk.box hBW4).cell 0
      have c1 : W4.cell? ⟨wr.heap.size, 1, none⟩ = some (.int .i64 a.hi) := (Blk.box hBW4).cell 1
      have c2 : W4.cell? ⟨wr.heap.size, 2, none⟩ = some (.int .i64 a.inst) := (Blk.box hBW4).cell 2
      clear hBW4 hoW4 hb8 Hb Hc1 hg
      generalize wr.heap.size = Q at *
      by_cases q0 : a.lo ≤ v
      · by_cases q1 : v ≤ a.hi
        · have hR2 : R = a.inst := by
            rw [← Hst.out]
            unfold instM
            rw [if_pos ⟨q0, q1⟩]
          subst hR2
          clear Hst
          go_wp2_with fail
          go_ret
          exact ⟨rfl, HB4.out⟩
        · have Hs2 : Hid (instM (l.drop (k + 1)) v = R) := by
            have h := Hst.out
            unfold instM at h
            rw [if_neg (by omega)] at h
            exact Lib.hid h
          clear Hst
          go_wp2_with fail
          go_roundw
          case rel => exact ⟨k + 1, by omega, by go_num, Hs2, HB4⟩
          case measure => simp [intOf]; omega
      · have Hs2 : Hid (instM (l.drop (k + 1)) v = R) := by
          have h := Hst.out
          unfold instM at h
          rw [if_neg (by omega)] at h
          exact Lib.hid h
        clear Hst
        go_wp2_with fail
        go_roundw
        case rel => exact ⟨k + 1, by omega, by go_num, Hs2, HB4⟩
        case measure => simp [intOf]; omega
    · obtain rfl : k = n := by omega
      have hI : ¬ (k : Int) < k := by omega
      have hR : R = 0 := by rw [← Hst.out, ← Hlen.out, List.drop_length]; rfl
      subst hR
      go_wp2_with fail
      go_ret
      exact ⟨rfl, Hb.out⟩
end Go.Proofs.Ytjekdodboihfhaa

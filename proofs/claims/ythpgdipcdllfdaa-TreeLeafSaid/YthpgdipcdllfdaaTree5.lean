/- slices.IndexFunc, slices.ContainsFunc over rows of structs. -/
import Derived.Test.YthpgdipcdllfdaaTree4
namespace Go.Proofs.Ythpgdipcdllfdaa
open Go.RowKit
/-- A slice of rows of s cells: what it holds. -/
def SlRow (w : World) (B s : Nat) (A : Option Addr) (C : List (List Value)) : Prop :=
  0 < C.length → ∃ g o, A = some ⟨g, o, none⟩ ∧ g < B ∧ ∀ (k : Nat) (hk : k < C.length), w.rangeAt g (o + k * s) C[k]
theorem SlRow.below {w W : World} {B B' s : Nat} {A : Option Addr} {C : List (List Value)} (h : SlRow w B s A C) (hb : Below B' w W) (hB : B ≤ B') : SlRow W B s A C := by
  intro hn
  obtain ⟨g, o, e, hg, hr⟩ := h hn
  exact ⟨g, o, e, hg, fun k hk => rangeAt_below (hr k hk) hb (by omega)⟩
def idxP {α : Type} (p : α → Bool) (xs : List α) : Int := if xs.any p = true then (xs.findIdx p : Int) else -1
theorem idxP_found {α : Type} (p : α → Bool) (xs : List α) (k : Nat) (hk : k < xs.length) (h : p xs[k] = true) (hb : ∀ j (hj : j < k), p (xs[j]'(by omega)) = false) : idxP p xs = k := by
  unfold idxP
  have ha : xs.any p = true := List.any_eq_true.2 ⟨xs[k], List.getElem_mem hk, h⟩
  rw [if_pos ha]
  have : xs.findIdx p = k := by
    rw [List.findIdx_eq hk]
    exact ⟨h, fun j hj => hb j hj⟩
  rw [this]
theorem idxP_none {α : Type} (p : α → Bool) (xs : List α) (hb : ∀ j (hj : j < xs.length), p xs[j] = false) : idxP p xs = -1 := by
  unfold idxP
  have : xs.any p = false := by
    rw [List.any_eq_false]
    intro x hx
    obtain ⟨j, hj, rfl⟩ := List.getElem_of_mem hx
    rw [hb j hj]; simp
  rw [this]; rfl
theorem idxP_any {α : Type} (p : α → Bool) (xs : List α) : decide (0 ≤ idxP p xs) = xs.any p := by
  unfold idxP
  cases xs.any p
  · rfl
  · simp
theorem info37 : (Try.prog.info? 37).map (·.size) = some 4 := by kernel_rfl
set_option maxRecDepth 100000 in
set_option maxHeartbeats 1000000 in
theorem idx_mem {α : Type} (enc : α → List Value) (h4 : ∀ x, (enc x).length = 4) (p : α → Bool) (xs : List α) (n : Nat) (hlen : xs.length = n) (A : Option Addr) (cap f : Nat) (caps : Array Value) (w : World) (hn : n ≤ 4611686018427387904) (hr : SlRow w w.heap.size 4 A (xs.map enc))
    (hf : ∀ (args : Array Value) (W : World), (callFunc f args).run Try.prog W = .ok (.enter f args) W)
    (hp : ∀ (k : Nat) (hk : k < xs.length) (W : World), Below w.heap.size w W → Calls Try.prog f (#[.agg (enc xs[k]).toArray] ++ caps) W fun e w' => e = .returned (.bool (p xs[k])) ∧ Below W.heap.size W w') :
    Calls Try.prog 58 #[.slice A n cap, .func (.func f) #[] caps] w fun e w' => e = .returned (.int .i64 (idxP p xs)) ∧ Below w.heap.size w w' := by
  have Hr := Lib.hid hr
  have Hp := Lib.hid hp
  clear hr hp
  have Hlen := Lib.hid hlen
  clear hlen
  go_enter Try.func58, Try.ntmps58
  go_wp2_with fail
  go_loopw [5, 8] (fun _ i wr => ∃ k : Nat, k ≤ n ∧ i = .int .i64 k ∧ Hid (∀ j (hj : j < xs.length), j < k → p xs[j] = false) ∧ Below w.heap.size w wr) (fun _ i _ => n - (intOf i).toNat)
  case atStart => exact ⟨0, by omega, rfl, Lib.hid (fun j hj h => absurd h (by omega)), Below.refl _ _⟩
  case round =>
    obtain ⟨k, hk, rfl, Hz, hbr⟩ := hrel
    by_cases hlt : k < n
    · have hkx : k < xs.length := by rw [Hlen.out]; exact hlt
      obtain ⟨g, o, rfl, hg, hc⟩ := Hr.out (by rw [List.length_map]; omega)
      have hc1 := hc k (by rw [List.length_map]; exact hkx)
      rw [List.getElem_map] at hc1
      have Hc1 := Lib.hid (rangeAt_below hc1 hbr hg)
      clear hc hc1
      have hpk := Hp.out k hkx _ hbr
      cases hv : p xs[k]
      · rw [hv] at hpk
        have HV := Lib.hid hv
        have Hpk := Lib.hid hpk
        clear hv hpk
        go_wp2_with (first
          | ((with_reducible refine wpList_load_rng (ty := 37) (b := ?b3) (o := ?o3) (ds := ?ds3) (enc xs[k]) ?hx3 ?hB3 ?hu3 ?hd3 ?hi3 ?hk3)
             case hx3 => rfl
             case hB3 => exact Hc1.out
             case hu3 => exact Try.underlying37
             case hd3 => rfl
             case hi3 => rw [h4]; exact info37)
          | ((with_reducible refine Hpk.out.mono ?_)
             rintro e w1 ⟨rfl, hb1⟩))
        have hb2 := hbr.trans (hb1.mono hbr.size)
        go_roundw
        case rel => exact ⟨k + 1, by omega, by go_num, Lib.hid (fun j hj h => by
          by_cases e : j = k
          · subst e; exact HV.out
          · exact Hz.out j hj (by omega)), hb2⟩
        case measure => simp [intOf]; omega
      · rw [hv] at hpk
        have hz : idxP p xs = k := idxP_found p xs k hkx hv (fun j hj => Hz.out j (by omega) hj)
        have HZ := Lib.hid hz
        have Hpk := Lib.hid hpk
        clear hv hpk hz
        go_wp2_with (first
          | ((with_reducible refine wpList_load_rng (ty := 37) (b := ?b4) (o := ?o4) (ds := ?ds4) (enc xs[k]) ?hx4 ?hB4 ?hu4 ?hd4 ?hi4 ?hk4)
             case hx4 => rfl
             case hB4 => exact Hc1.out
             case hu4 => exact Try.underlying37
             case hd4 => rfl
             case hi4 => rw [h4]; exact info37)
          | ((with_reducible refine Hpk.out.mono ?_)
             rintro e w1 ⟨rfl, hb1⟩))
        have hb2 := hbr.trans (hb1.mono hbr.size)
        go_ret
        exact ⟨ret_int HZ.out.symm, hb2⟩
    · have hz : idxP p xs = -1 := idxP_none p xs (fun j hj => Hz.out j hj (by have := Hlen.out; omega))
      have HZ := Lib.hid hz
      clear hz
      go_wp2_with fail
      go_ret
      exact ⟨ret_int HZ.out.symm, hbr⟩
set_option maxRecDepth 100000 in
theorem has_mem {α : Type} (enc : α → List Value) (h4 : ∀ x, (enc x).length = 4) (p : α → Bool) (xs : List α) (n : Nat) (hlen : xs.length = n) (A : Option Addr) (cap f : Nat) (caps : Array Value) (w : World) (hn : n ≤ 4611686018427387904) (hr : SlRow w w.heap.size 4 A (xs.map enc))
    (hf : ∀ (args : Array Value) (W : World), (callFunc f args).run Try.prog W = .ok (.enter f args) W)
    (hp : ∀ (k : Nat) (hk : k < xs.length) (W : World), Below w.heap.size w W → Calls Try.prog f (#[.agg (enc xs[k]).toArray] ++ caps) W fun e w' => e = .returned (.bool (p xs[k])) ∧ Below W.heap.size W w') :
    Calls Try.prog 38 #[.slice A n cap, .func (.func f) #[] caps] w fun e w' => e = .returned (.bool (xs.any p)) ∧ Below w.heap.size w w' := by
  have H := Lib.hid (idx_mem enc h4 p xs n hlen A cap f caps w hn hr hf hp)
  have Ha := Lib.hid (idxP_any p xs)
  clear hlen hr hf hp
  generalize idxP p xs = r at *
  go_enter Try.func38, Try.ntmps38
  go_wp2_with fail
  refine H.out.mono ?_
  rintro e w1 ⟨rfl, hb1⟩
  go_wp2_with fail
  go_ret
  exact ⟨by rw [← Ha.out]; rfl, hb1⟩
theorem info32 : (Try.prog.info? 32).map (·.size) = some 9 := by kernel_rfl
set_option maxRecDepth 100000 in
set_option maxHeartbeats 1000000 in
theorem idx_node {α : Type} (enc : α → List Value) (h4 : ∀ x, (enc x).length = 9) (p : α → Bool) (xs : List α) (n : Nat) (hlen : xs.length = n) (A : Option Addr) (cap f : Nat) (caps : Array Value) (w : World) (hn : n ≤ 4611686018427387904) (hr : SlRow w w.heap.size 9 A (xs.map enc))
    (hf : ∀ (args : Array Value) (W : World), (callFunc f args).run Try.prog W = .ok (.enter f args) W)
    (hp : ∀ (k : Nat) (hk : k < xs.length) (W : World), Below w.heap.size w W → Calls Try.prog f (#[.agg (enc xs[k]).toArray] ++ caps) W fun e w' => e = .returned (.bool (p xs[k])) ∧ Below W.heap.size W w') :
    Calls Try.prog 66 #[.slice A n cap, .func (.func f) #[] caps] w fun e w' => e = .returned (.int .i64 (idxP p xs)) ∧ Below w.heap.size w w' := by
  have Hr := Lib.hid hr
  have Hp := Lib.hid hp
  clear hr hp
  have Hlen := Lib.hid hlen
  clear hlen
  go_enter Try.func66, Try.ntmps66
  go_wp2_with fail
  go_loopw [5, 8] (fun _ i wr => ∃ k : Nat, k ≤ n ∧ i = .int .i64 k ∧ Hid (∀ j (hj : j < xs.length), j < k → p xs[j] = false) ∧ Below w.heap.size w wr) (fun _ i _ => n - (intOf i).toNat)
  case atStart => exact ⟨0, by omega, rfl, Lib.hid (fun j hj h => absurd h (by omega)), Below.refl _ _⟩
  case round =>
    obtain ⟨k, hk, rfl, Hz, hbr⟩ := hrel
    by_cases hlt : k < n
    · have hkx : k < xs.length := by rw [Hlen.out]; exact hlt
      obtain ⟨g, o, rfl, hg, hc⟩ := Hr.out (by rw [List.length_map]; omega)
      have hc1 := hc k (by rw [List.length_map]; exact hkx)
      rw [List.getElem_map] at hc1
      have Hc1 := Lib.hid (rangeAt_below hc1 hbr hg)
      clear hc hc1
      have hpk := Hp.out k hkx _ hbr
      cases hv : p xs[k]
      · rw [hv] at hpk
        have HV := Lib.hid hv
        have Hpk := Lib.hid hpk
        clear hv hpk
        go_wp2_with (first
          | ((with_reducible refine wpList_load_rng (ty := 32) (b := ?b3) (o := ?o3) (ds := ?ds3) (enc xs[k]) ?hx3 ?hB3 ?hu3 ?hd3 ?hi3 ?hk3)
             case hx3 => rfl
             case hB3 => exact Hc1.out
             case hu3 => exact Try.underlying32
             case hd3 => rfl
             case hi3 => rw [h4]; exact info32)
          | ((with_reducible refine Hpk.out.mono ?_)
             rintro e w1 ⟨rfl, hb1⟩))
        have hb2 := hbr.trans (hb1.mono hbr.size)
        go_roundw
        case rel => exact ⟨k + 1, by omega, by go_num, Lib.hid (fun j hj h => by
          by_cases e : j = k
          · subst e; exact HV.out
          · exact Hz.out j hj (by omega)), hb2⟩
        case measure => simp [intOf]; omega
      · rw [hv] at hpk
        have hz : idxP p xs = k := idxP_found p xs k hkx hv (fun j hj => Hz.out j (by omega) hj)
        have HZ := Lib.hid hz
        have Hpk := Lib.hid hpk
        clear hv hpk hz
        go_wp2_with (first
          | ((with_reducible refine wpList_load_rng (ty := 32) (b := ?b4) (o := ?o4) (ds := ?ds4) (enc xs[k]) ?hx4 ?hB4 ?hu4 ?hd4 ?hi4 ?hk4)
             case hx4 => rfl
             case hB4 => exact Hc1.out
             case hu4 => exact Try.underlying32
             case hd4 => rfl
             case hi4 => rw [h4]; exact info32)
          | ((with_reducible refine Hpk.out.mono ?_)
             rintro e w1 ⟨rfl, hb1⟩))
        have hb2 := hbr.trans (hb1.mono hbr.size)
        go_ret
        exact ⟨ret_int HZ.out.symm, hb2⟩
    · have hz : idxP p xs = -1 := idxP_none p xs (fun j hj => Hz.out j hj (by have := Hlen.out; omega))
      have HZ := Lib.hid hz
      clear hz
      go_wp2_with fail
      go_ret
      exact ⟨ret_int HZ.out.symm, hbr⟩
set_option maxRecDepth 100000 in
theorem has_node {α : Type} (enc : α → List Value) (h4 : ∀ x, (enc x).length = 9) (p : α → Bool) (xs : List α) (n : Nat) (hlen : xs.length = n) (A : Option Addr) (cap f : Nat) (caps : Array Value) (w : World) (hn : n ≤ 4611686018427387904) (hr : SlRow w w.heap.size 9 A (xs.map enc))
    (hf : ∀ (args : Array Value) (W : World), (callFunc f args).run Try.prog W = .ok (.enter f args) W)
    (hp : ∀ (k : Nat) (hk : k < xs.length) (W : World), Below w.heap.size w W → Calls Try.prog f (#[.agg (enc xs[k]).toArray] ++ caps) W fun e w' => e = .returned (.bool (p xs[k])) ∧ Below W.heap.size W w') :
    Calls Try.prog 60 #[.slice A n cap, .func (.func f) #[] caps] w fun e w' => e = .returned (.bool (xs.any p)) ∧ Below w.heap.size w w' := by
  have H := Lib.hid (idx_node enc h4 p xs n hlen A cap f caps w hn hr hf hp)
  have Ha := Lib.hid (idxP_any p xs)
  clear hlen hr hf hp
  generalize idxP p xs = r at *
  go_enter Try.func60, Try.ntmps60
  go_wp2_with fail
  refine H.out.mono ?_
  rintro e w1 ⟨rfl, hb1⟩
  go_wp2_with fail
  go_ret
  exact ⟨by rw [← Ha.out]; rfl, hb1⟩
set_option maxRecDepth 100000 in
set_option maxHeartbeats 1000000 in
theorem idx_vec {α : Type} (enc : α → List Value) (h4 : ∀ x, (enc x).length = 21) (p : α → Bool) (xs : List α) (n : Nat) (hlen : xs.length = n) (A : Option Addr) (cap f : Nat) (caps : Array Value) (w : World) (hn : n ≤ 4611686018427387904) (hr : SlRow w w.heap.size 21 A (xs.map enc))
    (hf : ∀ (args : Array Value) (W : World), (callFunc f args).run Try.prog W = .ok (.enter f args) W)
    (hp : ∀ (k : Nat) (hk : k < xs.length) (W : World), Below w.heap.size w W → Calls Try.prog f (#[.agg (enc xs[k]).toArray] ++ caps) W fun e w' => e = .returned (.bool (p xs[k])) ∧ Below W.heap.size W w') :
    Calls Try.prog 62 #[.slice A n cap, .func (.func f) #[] caps] w fun e w' => e = .returned (.int .i64 (idxP p xs)) ∧ Below w.heap.size w w' := by
  have Hr := Lib.hid hr
  have Hp := Lib.hid hp
  clear hr hp
  have Hlen := Lib.hid hlen
  clear hlen
  go_enter Try.func62, Try.ntmps62
  go_wp2_with fail
  go_loopw [5, 8] (fun _ i wr => ∃ k : Nat, k ≤ n ∧ i = .int .i64 k ∧ Hid (∀ j (hj : j < xs.length), j < k → p xs[j] = false) ∧ Below w.heap.size w wr) (fun _ i _ => n - (intOf i).toNat)
  case atStart => exact ⟨0, by omega, rfl, Lib.hid (fun j hj h => absurd h (by omega)), Below.refl _ _⟩
  case round =>
    obtain ⟨k, hk, rfl, Hz, hbr⟩ := hrel
    by_cases hlt : k < n
    · have hkx : k < xs.length := by rw [Hlen.out]; exact hlt
      obtain ⟨g, o, rfl, hg, hc⟩ := Hr.out (by rw [List.length_map]; omega)
      have hc1 := hc k (by rw [List.length_map]; exact hkx)
      rw [List.getElem_map] at hc1
      have Hc1 := Lib.hid (rangeAt_below hc1 hbr hg)
      clear hc hc1
      have hpk := Hp.out k hkx _ hbr
      cases hv : p xs[k]
      · rw [hv] at hpk
        have HV := Lib.hid hv
        have Hpk := Lib.hid hpk
        clear hv hpk
        go_wp2_with (first
          | ((with_reducible refine wpList_load_rng (ty := 48) (b := ?b3) (o := ?o3) (ds := ?ds3) (enc xs[k]) ?hx3 ?hB3 ?hu3 ?hd3 ?hi3 ?hk3)
             case hx3 => rfl
             case hB3 => exact Hc1.out
             case hu3 => exact Try.underlying48
             case hd3 => rfl
             case hi3 => rw [h4]; exact info48)
          | ((with_reducible refine Hpk.out.mono ?_)
             rintro e w1 ⟨rfl, hb1⟩))
        have hb2 := hbr.trans (hb1.mono hbr.size)
        go_roundw
        case rel => exact ⟨k + 1, by omega, by go_num, Lib.hid (fun j hj h => by
          by_cases e : j = k
          · subst e; exact HV.out
          · exact Hz.out j hj (by omega)), hb2⟩
        case measure => simp [intOf]; omega
      · rw [hv] at hpk
        have hz : idxP p xs = k := idxP_found p xs k hkx hv (fun j hj => Hz.out j (by omega) hj)
        have HZ := Lib.hid hz
        have Hpk := Lib.hid hpk
        clear hv hpk hz
        go_wp2_with (first
          | ((with_reducible refine wpList_load_rng (ty := 48) (b := ?b4) (o := ?o4) (ds := ?ds4) (enc xs[k]) ?hx4 ?hB4 ?hu4 ?hd4 ?hi4 ?hk4)
             case hx4 => rfl
             case hB4 => exact Hc1.out
             case hu4 => exact Try.underlying48
             case hd4 => rfl
             case hi4 => rw [h4]; exact info48)
          | ((with_reducible refine Hpk.out.mono ?_)
             rintro e w1 ⟨rfl, hb1⟩))
        have hb2 := hbr.trans (hb1.mono hbr.size)
        go_ret
        exact ⟨ret_int HZ.out.symm, hb2⟩
    · have hz : idxP p xs = -1 := idxP_none p xs (fun j hj => Hz.out j hj (by have := Hlen.out; omega))
      have HZ := Lib.hid hz
      clear hz
      go_wp2_with fail
      go_ret
      exact ⟨ret_int HZ.out.symm, hbr⟩
set_option maxRecDepth 100000 in
theorem has_vec {α : Type} (enc : α → List Value) (h4 : ∀ x, (enc x).length = 21) (p : α → Bool) (xs : List α) (n : Nat) (hlen : xs.length = n) (A : Option Addr) (cap f : Nat) (caps : Array Value) (w : World) (hn : n ≤ 4611686018427387904) (hr : SlRow w w.heap.size 21 A (xs.map enc))
    (hf : ∀ (args : Array Value) (W : World), (callFunc f args).run Try.prog W = .ok (.enter f args) W)
    (hp : ∀ (k : Nat) (hk : k < xs.length) (W : World), Below w.heap.size w W → Calls Try.prog f (#[.agg (enc xs[k]).toArray] ++ caps) W fun e w' => e = .returned (.bool (p xs[k])) ∧ Below W.heap.size W w') :
    Calls Try.prog 44 #[.slice A n cap, .func (.func f) #[] caps] w fun e w' => e = .returned (.bool (xs.any p)) ∧ Below w.heap.size w w' := by
  have H := Lib.hid (idx_vec enc h4 p xs n hlen A cap f caps w hn hr hf hp)
  have Ha := Lib.hid (idxP_any p xs)
  clear hlen hr hf hp
  generalize idxP p xs = r at *
  go_enter Try.func44, Try.ntmps44
  go_wp2_with fail
  refine H.out.mono ?_
  rintro e w1 ⟨rfl, hb1⟩
  go_wp2_with fail
  go_ret
  exact ⟨by rw [← Ha.out]; rfl, hb1⟩
end Go.Proofs.Ythpgdipcdllfdaa

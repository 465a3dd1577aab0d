/- The law of BridgeQuiet. -/
import Derived.Test.YtoenlcmngdpkmaaBr16
namespace Go.Proofs.Ytoenlcmngdpkmaa
open Go.RowKit Go.ChangeShapes Go.WideShapes Go.Deep
theorem St.app {B : Nat} {w0 w W : World} {A A' : List It} (h : St B w0 w A) (k : St w.heap.size w W A') : St B w0 W (A' ++ A) := by
  have hle := h.le
  refine ⟨h.below.trans (k.below.mono hle), h.base, fun x hx => ?_, fun x hx g hg => ?_, List.pairwise_append.2 ⟨k.apart, h.apart, fun x hx y hy g hgx hgy => ?_⟩⟩
  · rcases List.mem_append.1 hx with hx | hx
    · exact k.own x hx
    · exact x.loc w W (fun g hg => k.below.block g (x.lt w (h.own x hx) g hg)) k.below.size (h.own x hx)
  · rcases List.mem_append.1 hx with hx | hx
    · have := k.low x hx g hg; omega
    · exact h.low x hx g hg
  · have h1 := k.low x hx g hgx
    have h2 := y.lt w (h.own y hy) g hgy
    omega
set_option maxRecDepth 100000 in
set_option maxHeartbeats 1000000 in
theorem idxf_sent (p : SRow → Bool) (R : List SRow) (sv : Value) (f : Nat) (caps : Array Value) (w : World) (hn : R.length ≤ 4611686018427387904) (ho : w.ownsRow 0 65 22 sv R.length (srows R))
    (hf : ∀ (args : Array Value) (W : World), (callFunc f args).run Try.prog W = .ok (.enter f args) W)
    (hp : ∀ (r : SRow) (W : World), Below w.heap.size w W → Calls Try.prog f (#[.agg r.vals.toArray] ++ caps) W fun e w' => e = .returned (.bool (p r)) ∧ Below W.heap.size W w') :
    Calls Try.prog 59 #[sv, .func (.func f) #[] caps] w fun e w' => e = .returned (.int .i64 (idxP p R)) ∧ Below w.heap.size w w' := by
  obtain ⟨A, cap, rfl, hr⟩ := out_rows ho
  obtain ⟨n, hlen⟩ : ∃ n, R.length = n := ⟨_, rfl⟩
  rw [hlen] at hn ⊢
  have Hr := Lib.hid hr
  have Hp := Lib.hid hp
  have Hlen := Lib.hid hlen
  clear hr hlen ho hp
  go_enter Try.func59, Try.ntmps59
  go_wp2_with fail
  go_loopw [5, 8] (fun _ i wr => ∃ k : Nat, k ≤ n ∧ i = .int .i64 k ∧ Hid (∀ j (hj : j < R.length), j < k → p R[j] = false) ∧ Hid (Below w.heap.size w wr)) (fun _ i _ => n - (intOf i).toNat)
  case atStart => exact ⟨0, by omega, rfl, Lib.hid (fun j hj h => absurd h (by omega)), Lib.hid (Below.refl _ _)⟩
  case round =>
    obtain ⟨k, hk, rfl, Hz, Hb⟩ := hrel
    by_cases hlt : k < n
    · have hkx : k < R.length := by rw [Hlen.out]; exact hlt
      obtain ⟨g, rfl, hg, hc⟩ := Hr.out (by rw [Hlen.out]; omega)
      have Hc1 := Lib.hid (rangeAt_below (hc k hkx) Hb.out hg)
      have hpk := Hp.out R[k] _ Hb.out
      have HV : p R[k] = false → ∀ j (hj : j < R.length), j < k + 1 → p R[j] = false := fun hv j hj h => by
        by_cases e : j = k
        · subst e; exact hv
        · exact Hz.out j hj (by omega)
      have HZ : p R[k] = true → idxP p R = k := fun hv => idxP_found p R k hkx hv (fun j hj => Hz.out j (by omega) hj)
      clear hc
      generalize R[k] = r at *
      cases hv : p r
      · rw [hv] at hpk
        have HV2 := Lib.hid (HV hv)
        have Hpk := Lib.hid hpk
        clear hv hpk HV HZ Hz
        go_wp2_with (first
          | ((with_reducible refine wpList_load_rng (ty := 65) (b := ?b1) (o := ?o1) (ds := ?ds1) r.vals ?hx1 ?hB1 ?hu1 ?hd1 ?hi1 ?hk1)
             case hx1 => rfl
             case hB1 => exact Hc1.out
             case hu1 => exact Try.underlying65
             case hd1 => rfl
             case hi1 => exact info65)
          | ((with_reducible refine Hpk.out.mono ?_)
             rintro e w1 ⟨rfl, hb1⟩
             have Hb1 := Lib.hid (Hb.out.trans (hb1.mono Hb.out.size))
             clear hb1)
          )
        go_roundw
        case rel => exact ⟨k + 1, by omega, by go_num, HV2, Hb1⟩
        case measure => simp [intOf]; omega
      · rw [hv] at hpk
        have HZ2 := Lib.hid (HZ hv)
        have Hpk := Lib.hid hpk
        clear hv hpk HV HZ
        go_wp2_with (first
          | ((with_reducible refine wpList_load_rng (ty := 65) (b := ?b3) (o := ?o3) (ds := ?ds3) r.vals ?hx3 ?hB3 ?hu3 ?hd3 ?hi3 ?hk3)
             case hx3 => rfl
             case hB3 => exact Hc1.out
             case hu3 => exact Try.underlying65
             case hd3 => rfl
             case hi3 => exact info65)
          | ((with_reducible refine Hpk.out.mono ?_)
             rintro e w1 ⟨rfl, hb1⟩
             have Hb1 := Lib.hid (Hb.out.trans (hb1.mono Hb.out.size))
             clear hb1)
          )
        go_ret
        exact ⟨ret_int HZ2.out.symm, Hb1.out⟩
    · have hz : idxP p R = -1 := idxP_none p R (fun j hj => Hz.out j hj (by have := Hlen.out; omega))
      have HZ := Lib.hid hz
      clear hz
      go_wp2_with fail
      go_ret
      exact ⟨ret_int HZ.out.symm, Hb.out⟩
set_option maxRecDepth 100000 in
theorem anyf_sent (p : SRow → Bool) (R : List SRow) (sv : Value) (f : Nat) (caps : Array Value) (w : World) (hn : R.length ≤ 4611686018427387904) (ho : w.ownsRow 0 65 22 sv R.length (srows R))
    (hf : ∀ (args : Array Value) (W : World), (callFunc f args).run Try.prog W = .ok (.enter f args) W)
    (hp : ∀ (r : SRow) (W : World), Below w.heap.size w W → Calls Try.prog f (#[.agg r.vals.toArray] ++ caps) W fun e w' => e = .returned (.bool (p r)) ∧ Below W.heap.size W w') :
    Calls Try.prog 37 #[sv, .func (.func f) #[] caps] w fun e w' => e = .returned (.bool (R.any p)) ∧ Below w.heap.size w w' := by
  have H := Lib.hid (idxf_sent p R sv f caps w hn ho hf hp)
  have Ha := Lib.hid (idxP_any p R)
  obtain ⟨A, cap, rfl, hx⟩ := out_rows ho
  clear ho hp hf hx
  generalize idxP _ _ = r at *
  generalize R.any p = b at *
  generalize R.length = n at *
  go_enter Try.func37, Try.ntmps37
  go_wp2_with (first
    | ((with_reducible refine H.out.mono ?_)
       rintro e w1 ⟨rfl, hb1⟩
       skip)
    )
  go_ret
  exact ⟨by rw [← Ha.out]; rfl, hb1⟩
set_option maxRecDepth 100000 in
theorem quiet1_any (r : SRow) (port : Int) (PP : Nat) (w : World) (hP : w.cell? ⟨PP, 0, none⟩ = some (.int .i64 port)) (hl : PP < w.heap.size) :
    Calls Try.prog 38 #[.agg r.vals.toArray, .pointer (some ⟨PP, 0, none⟩)] w fun e w' => e = .returned (.bool (decide ((r.i : Int) = port))) ∧ Below w.heap.size w w' := by
  have hBx := Blk.new w r.vals 65
  have hb0 : Below w.heap.size w (w.alloc (.cells r.vals.toArray 65)) := (Below.refl _ _).alloc (Nat.le_refl _) _
  have c0 : (w.alloc (.cells r.vals.toArray 65)).cell? ⟨w.heap.size, 0, none⟩ = some (.int .i64 (r.i : Int)) := hBx.box.cell 0
  have cp := laterc hP hb0 hl
  have hbe : ((r.i : Int) == port) = decide ((r.i : Int) = port) := rfl
  have lp := Nat.lt_of_lt_of_le hl hb0.size
  have lr : w.heap.size < (w.alloc (.cells r.vals.toArray 65)).heap.size := by simp
  generalize decide ((r.i : Int) = port) = b at *
  have Hb0 := Lib.hid hb0
  clear hBx hb0 hP hl
  go_enter Try.func38, Try.ntmps38
  go_upto_region 1 with (fail)
  generalize w.alloc (.cells r.vals.toArray 65) = W1 at *
  go_wp2_with fail
  go_ret
  exact ⟨rfl, Hb0.out⟩
end Go.Proofs.Ytoenlcmngdpkmaa

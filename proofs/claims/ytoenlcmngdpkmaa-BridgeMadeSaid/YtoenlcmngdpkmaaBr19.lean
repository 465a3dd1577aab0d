/- The law of BridgeMade. -/
import Derived.Test.YtoenlcmngdpkmaaBr16
namespace Go.Proofs.Ytoenlcmngdpkmaa
open Go.RowKit Go.ChangeShapes Go.WideShapes Go.Deep
set_option maxRecDepth 100000 in
set_option maxHeartbeats 1000000 in
theorem idxf_pset (p : PRow → Bool) (L : List PRow) (sv : Value) (f : Nat) (caps : Array Value) (w : World) (hn : L.length ≤ 9223372036854775807) (hs : SlAt w 4 sv (L.map PRow.vals))
    (hf : ∀ (args : Array Value) (W : World), (callFunc f args).run Try.prog W = .ok (.enter f args) W)
    (hp : ∀ q ∈ L, ∀ (W : World), Below w.heap.size w W → Calls Try.prog f (#[.agg q.vals.toArray] ++ caps) W fun e w' => e = .returned (.bool (p q)) ∧ Below W.heap.size W w') :
    Calls Try.prog 51 #[sv, .func (.func f) #[] caps] w fun e w' => e = .returned (.int .i64 (idxP p L)) ∧ Below w.heap.size w w' := by
  obtain ⟨A, cap, rfl, hc, hr⟩ := hs.row
  rw [List.length_map] at *
  obtain ⟨n, hlen⟩ : ∃ n, L.length = n := ⟨_, rfl⟩
  rw [hlen] at hn hc ⊢
  have Hr := Lib.hid hr
  have Hp := Lib.hid hp
  have Hlen := Lib.hid hlen
  clear hr hlen hs hc hp
  go_enter Try.func51, Try.ntmps51
  go_wp2_with fail
  go_loopw [5, 8] (fun _ i wr => ∃ k : Nat, k ≤ n ∧ i = .int .i64 k ∧ Hid (∀ j (hj : j < L.length), j < k → p L[j] = false) ∧ Hid (Below w.heap.size w wr)) (fun _ i _ => n - (intOf i).toNat)
  case atStart => exact ⟨0, by omega, rfl, Lib.hid (fun j hj h => absurd h (by omega)), Lib.hid (Below.refl _ _)⟩
  case round =>
    obtain ⟨k, hk, rfl, Hz, Hb⟩ := hrel
    by_cases hlt : k < n
    · have hkx : k < L.length := by rw [Hlen.out]; exact hlt
      obtain ⟨g, o, rfl, hg, hc⟩ := Hr.out (by rw [List.length_map]; omega)
      have hc1 := hc k (by rw [List.length_map]; exact hkx)
      rw [List.getElem_map] at hc1
      have Hc1 := Lib.hid (rangeAt_below hc1 Hb.out hg)
      have hpk := Hp.out L[k] (List.getElem_mem hkx) _ Hb.out
      have HV : p L[k] = false → ∀ j (hj : j < L.length), j < k + 1 → p L[j] = false := fun hv j hj h => by
        by_cases e : j = k
        · subst e; exact hv
        · exact Hz.out j hj (by omega)
      have HZ : p L[k] = true → idxP p L = k := fun hv => idxP_found p L k hkx hv (fun j hj => Hz.out j (by omega) hj)
      clear hc hc1
      generalize L[k] = r at *
      cases hv : p r
      · rw [hv] at hpk
        have HV2 := Lib.hid (HV hv)
        have Hpk := Lib.hid hpk
        clear hv hpk HV HZ Hz
        go_wp2_with (first
          | ((with_reducible refine wpList_load_rng (ty := 44) (b := ?b1) (o := ?o1) (ds := ?ds1) r.vals ?hx1 ?hB1 ?hu1 ?hd1 ?hi1 ?hk1)
             case hx1 => rfl
             case hB1 => exact Hc1.out
             case hu1 => exact Try.underlying44
             case hd1 => rfl
             case hi1 => exact info44)
          | ((with_reducible refine Hpk.out.mono ?_)
             rintro e w1 ⟨rfl, hb1⟩
             have Hb1 := Lib.hid (Hb.out.trans (hb1.mono Hb.out.size))
             clear hb1)
          )
        go_roundw
        case rel => exact ⟨k + 1, by omega, by go_num, HV2, Hb1⟩
        case measure => simp [intOf]; omega
      · rw [hv] at hpk
        have HZ2 := Lib.hid (HZ hv)
        have Hpk := Lib.hid hpk
        clear hv hpk HV HZ
        go_wp2_with (first
          | ((with_reducible refine wpList_load_rng (ty := 44) (b := ?b3) (o := ?o3) (ds := ?ds3) r.vals ?hx3 ?hB3 ?hu3 ?hd3 ?hi3 ?hk3)
             case hx3 => rfl
             case hB3 => exact Hc1.out
             case hu3 => exact Try.underlying44
             case hd3 => rfl
             case hi3 => exact info44)
          | ((with_reducible refine Hpk.out.mono ?_)
             rintro e w1 ⟨rfl, hb1⟩
             have Hb1 := Lib.hid (Hb.out.trans (hb1.mono Hb.out.size))
             clear hb1)
          )
        go_ret
        exact ⟨ret_int HZ2.out.symm, Hb1.out⟩
    · have hz : idxP p L = -1 := idxP_none p L (fun j hj => Hz.out j hj (by have := Hlen.out; omega))
      have HZ := Lib.hid hz
      clear hz
      go_wp2_with fail
      go_ret
      exact ⟨ret_int HZ.out.symm, Hb.out⟩
set_option maxRecDepth 100000 in
theorem anyf_pset (p : PRow → Bool) (L : List PRow) (sv : Value) (f : Nat) (caps : Array Value) (w : World) (hn : L.length ≤ 9223372036854775807) (hs : SlAt w 4 sv (L.map PRow.vals))
    (hf : ∀ (args : Array Value) (W : World), (callFunc f args).run Try.prog W = .ok (.enter f args) W)
    (hp : ∀ q ∈ L, ∀ (W : World), Below w.heap.size w W → Calls Try.prog f (#[.agg q.vals.toArray] ++ caps) W fun e w' => e = .returned (.bool (p q)) ∧ Below W.heap.size W w') :
    Calls Try.prog 23 #[sv, .func (.func f) #[] caps] w fun e w' => e = .returned (.bool (L.any p)) ∧ Below w.heap.size w w' := by
  have H := Lib.hid (idxf_pset p L sv f caps w hn hs hf hp)
  have Ha := Lib.hid (idxP_any p L)
  obtain ⟨A, cap, rfl, _, _⟩ := hs.row
  clear hs hp hf hn
  generalize idxP _ _ = r at *
  generalize L.any p = b at *
  generalize (L.map PRow.vals).length = n at *
  go_enter Try.func23, Try.ntmps23
  go_wp2_with (first
    | ((with_reducible refine H.out.mono ?_)
       rintro e w1 ⟨rfl, hb1⟩
       skip)
    )
  go_ret
  exact ⟨by rw [← Ha.out]; rfl, hb1⟩
theorem all_right (L : List PRow) : (L.map PRow.p).all rightP = !(L.any fun q => !rightP q.p) := by
  induction L with
  | nil => rfl
  | cons q L ih =>
    simp only [List.map_cons, List.all_cons, List.any_cons, ih]
    cases rightP q.p <;> simp
def bigB (q : PRow) : Bool := decide (200 < IntKind.i64.wrap ((q.p.ins.length : Int) + (q.p.bare.length : Int)))
set_option maxRecDepth 100000 in
theorem made1_any (q : PRow) (w : World) (hq : q.In w) :
    Calls Try.prog 24 #[.agg q.vals.toArray] w fun e w' => e = .returned (.bool (bigB q)) ∧ Below w.heap.size w w' := by
  have hBx := Blk.new w q.vals 44
  have c1 : (w.alloc (.cells q.vals.toArray 44)).cell? ⟨w.heap.size, 1, none⟩ = some q.iv := hBx.box.cell 1
  have c2 : (w.alloc (.cells q.vals.toArray 44)).cell? ⟨w.heap.size, 2, none⟩ = some q.bv := hBx.box.cell 2
  obtain ⟨A1, k1, e1, _, _⟩ := hq.1
  obtain ⟨A2, k2, e2, _, _⟩ := hq.2
  rw [intv_len] at e1 e2
  rw [e1] at c1
  rw [e2] at c2
  have HB : Hid (bigB q = decide (200 < IntKind.i64.wrap ((q.p.ins.length : Int) + (q.p.bare.length : Int)))) := Lib.hid rfl
  have Hb0 : Hid (Below w.heap.size w (w.alloc (.cells q.vals.toArray 44))) := Lib.hid ((Below.refl _ _).alloc (Nat.le_refl _) _)
  clear hBx e1 e2 hq
  generalize q.p.ins.length = n1 at *
  generalize q.p.bare.length = n2 at *
  generalize hw : IntKind.i64.wrap ((n1 : Int) + (n2 : Int)) = s at *
  go_enter Try.func24, Try.ntmps24
  go_upto_region 1 with (fail)
  generalize w.alloc (.cells q.vals.toArray 44) = W1 at *
  go_wp2_with fail
  go_ret
  exact ⟨by rw [HB.out]; first | rfl | simp [hw], Hb0.out⟩
set_option maxRecDepth 100000 in
theorem made2_any (q : PRow) (w : World) (hq : q.In w) (h1 : q.p.ins.length ≤ 9223372036854775807) (h2 : q.p.bare.length ≤ 9223372036854775807) :
    Calls Try.prog 26 #[.agg q.vals.toArray] w fun e w' => e = .returned (.bool (!rightP q.p)) ∧ Below w.heap.size w w' := by
  have HX := Lib.hid (Blk.new w q.vals 44)
  have hb0 : Below w.heap.size w (w.alloc (.cells q.vals.toArray 44)) := (Below.refl _ _).alloc (Nat.le_refl _) _
  have HR := Lib.hid (right_any q _ (hq.below hb0) h1 h2)
  have Hb0 := Lib.hid hb0
  clear hb0 hq
  generalize rightP q.p = b at *
  go_enter Try.func26, Try.ntmps26
  go_upto_region 1 with (fail)
  generalize w.alloc (.cells q.vals.toArray 44) = W1 at *
  go_wp2_with (first
    | ((with_reducible refine wpList_load_box (ty := 44) (b := ?b6) (ds := ?ds6) q.vals ?hx6 ?hB6 ?hu6 ?hd6 ?hi6 ?hk6)
       case hx6 => rfl
       case hB6 => exact (Blk.box HX.out)
       case hu6 => exact Try.underlying44
       case hd6 => rfl
       case hi6 => exact info44)
    | ((with_reducible refine HR.out.mono ?_)
       rintro e w2 ⟨rfl, hb2⟩
       skip)
    )
  go_ret
  exact ⟨rfl, Hb0.out.trans (hb2.mono Hb0.out.size)⟩
set_option maxRecDepth 100000 in
set_option maxHeartbeats 8000000 in
theorem law_BridgeMade (v0 : Value) (L : List PRow) (vid a : Int) (_ : (Lit.int .i64 vid).wf = true) (_ : (Lit.int .i64 a).wf = true) (w : World) (hv0 : IsPorts w v0 L) :
    Calls Try.prog 6 #[v0, .int .i64 vid, .int .i64 a] w fun e w' => e = .returned (.bool true) ∧ Below w.heap.size w w' := by
  have hf1 : ∀ (args : Array Value) (W : World), (callFunc 24 args).run Try.prog W = .ok (.enter 24 args) W := fun args W => by kernel_rfl
  have hf2 : ∀ (args : Array Value) (W : World), (callFunc 26 args).run Try.prog W = .ok (.enter 26 args) W := fun args W => by kernel_rfl
  obtain ⟨hs, hin, hlen, hsub⟩ := hv0
  obtain ⟨A0, k0, e0, _, _⟩ := hs.row
  rw [List.length_map] at e0
  have HBig : Hid (∀ W, Below w.heap.size w W → Calls Try.prog 23 #[v0, .func (.func 24) #[] #[]] W fun e w' => e = .returned (.bool (L.any bigB)) ∧ Below W.heap.size W w') := Lib.hid fun W hW =>
    anyf_pset bigB L v0 _ #[] W hlen (hs.below hW) hf1 (fun q hq X hX => made1_any q X ((hin q hq).below (hW.trans (hX.mono hW.size))))
  have HRt : Hid (∀ W, Below w.heap.size w W → Calls Try.prog 23 #[v0, .func (.func 26) #[] #[]] W fun e w' => e = .returned (.bool (L.any fun q => !rightP q.p)) ∧ Below W.heap.size W w') := Lib.hid fun W hW =>
    anyf_pset (fun q => !rightP q.p) L v0 _ #[] W hlen (hs.below hW) hf2 (fun q hq X hX => made2_any q X ((hin q hq).below (hW.trans (hX.mono hW.size))) (hsub q hq).1 (hsub q hq).2)
  have HNew : Hid (∀ W, Below w.heap.size w W → L.length ≤ 12 → Calls Try.prog 25 #[v0, .int .i64 100] W (NewPost W (L.map PRow.p))) := Lib.hid fun W hW h12 => new_any L v0 W (hs.below hW) (fun q hq => (hin q hq).below hW) h12 hsub
  have HGd : Hid (goodL (L.map PRow.p) = (decide (L.length ≤ 8) && !(L.any fun q => !rightP q.p))) := Lib.hid (by
    unfold goodL
    rw [List.length_map, all_right])
  subst e0
  clear hf1 hf2 hs hin hsub
  go_enter Try.func6, Try.ntmps6
  have HW : Hid (Below w.heap.size w w) := Lib.hid (Below.refl _ _)
  by_cases h12 : 12 < L.length
  · go_wp2_with (first
      | ((with_reducible refine (passes_any _).mono ?_)
         rintro e w2 ⟨rfl, hb2⟩
         skip)
      )
    go_ret
    exact ⟨rfl, hb2⟩
  have h12' : L.length ≤ 12 := by omega
  generalize L.any bigB = b1 at *
  cases b1
  case true =>
    go_wp2_with (first
      | ((with_reducible refine (passes_any _).mono ?_)
         rintro e w2 ⟨rfl, hb2⟩
         have HB2 := Lib.hid hb2
         clear hb2)
      | ((with_reducible refine (HBig.out _ HB2.out).mono ?_)
         rintro e w3 ⟨rfl, hb3⟩
         skip)
      )
    go_ret
    exact ⟨rfl, HB2.out.trans (hb3.mono HB2.out.size)⟩
  have HAd : Hid (∀ W, Calls Try.prog 18 #[.int .i64 a] W fun e w' => e = .returned (.agg (adOf (pickN a 60)).vals.toArray) ∧ Below W.heap.size W w') := Lib.hid fun W => address_any a W
  generalize hg : goodL (L.map PRow.p) = g at *
  have Hg := Lib.hid hg
  clear hg
  generalize (L.any fun q => !rightP q.p) = b2 at *
  have HN2 : Hid (∀ W, Below w.heap.size w W → Calls Try.prog 25 #[.slice A0 L.length k0, .int .i64 100] W fun e w' => if g = true then ∃ Bp T sv L', e = .returned (.tuple #[.pointer (some ⟨Bp, 0, none⟩), .nilIface]) ∧ L'.map PRow.p = L.map PRow.p ∧ St W.heap.size W w' (brd Bp T 0 sv (.slice none 0 0) L' [] []) else ∃ t v, e = .returned (.tuple #[.pointer none, .iface t v]) ∧ Below W.heap.size W w') := Lib.hid fun W hW => by
    have h := HNew.out W hW h12'
    unfold NewPost at h
    rw [Hg.out] at h
    exact h
  clear HNew
  cases g
  · simp only [Bool.false_eq_true, if_false] at HN2
    by_cases h8 : L.length ≤ 8
    · have hb2 : b2 = true := by
        have := HGd.out
        rw [decide_eq_true h8] at this
        cases b2
        · cases this
        · rfl
      subst hb2
      go_wp2_with (first
        | ((with_reducible refine (passes_any _).mono ?_)
           rintro e w2 ⟨rfl, hb2⟩
           have HB2 := Lib.hid hb2
           clear hb2)
        | ((with_reducible refine (HBig.out _ HB2.out).mono ?_)
           rintro e w3 ⟨rfl, hb3⟩
           have HB3 := Lib.hid (HB2.out.trans (hb3.mono HB2.out.size))
           clear hb3)
        | ((with_reducible refine (HN2.out _ HB3.out).mono ?_)
           rintro e w4 ⟨et, ev, rfl, hb4⟩
           have HB4 := Lib.hid (HB3.out.trans (hb4.mono HB3.out.size))
           clear hb4)
        | ((with_reducible refine (HRt.out _ HB4.out).mono ?_)
           rintro e w5 ⟨rfl, hb5⟩
           have HB5 := Lib.hid (HB4.out.trans (hb5.mono HB4.out.size))
           clear hb5)
        )
      go_ret
      exact ⟨rfl, HB5.out⟩
    · have h8' : ¬ L.length ≤ 8 := h8
      go_wp2_with (first
        | ((with_reducible refine (passes_any _).mono ?_)
           rintro e w2 ⟨rfl, hb2⟩
           have HB2 := Lib.hid hb2
           clear hb2)
        | ((with_reducible refine (HBig.out _ HB2.out).mono ?_)
           rintro e w3 ⟨rfl, hb3⟩
           have HB3 := Lib.hid (HB2.out.trans (hb3.mono HB2.out.size))
           clear hb3)
        | ((with_reducible refine (HN2.out _ HB3.out).mono ?_)
           rintro e w4 ⟨et, ev, rfl, hb4⟩
           have HB4 := Lib.hid (HB3.out.trans (hb4.mono HB3.out.size))
           clear hb4)
        )
      go_ret
      exact ⟨rfl, HB4.out⟩
  · simp only [if_true] at HN2
    have hgd := HGd.out
    have h8 : L.length ≤ 8 := by
      by_cases h : L.length ≤ 8
      · exact h
      · rw [decide_eq_false h] at hgd; cases hgd
    have hb2 : b2 = false := by
      rw [decide_eq_true h8] at hgd
      cases b2
      · rfl
      · cases hgd
    subst hb2
    clear hgd HGd
    go_wp2_with (first
      | ((with_reducible refine (passes_any _).mono ?_)
         rintro e w2 ⟨rfl, hb2⟩
         have HB2 := Lib.hid hb2
         clear hb2)
      | ((with_reducible refine (HBig.out _ HB2.out).mono ?_)
         rintro e w3 ⟨rfl, hb3⟩
         have HB3 := Lib.hid (HB2.out.trans (hb3.mono HB2.out.size))
         clear hb3)
      | ((with_reducible refine (HN2.out _ HB3.out).mono ?_)
         rintro e w4 ⟨Bp, T, sv, L', rfl, hL', h4⟩
         have H4 := Lib.hid h4
         have HB4 := Lib.hid (HB3.out.trans (h4.below.mono HB3.out.size))
         clear h4 hL')
      | ((with_reducible refine (HRt.out _ HB4.out).mono ?_)
         rintro e w5 ⟨rfl, hb5⟩
         have H5 := Lib.hid (H4.out.ext hb5)
         clear hb5 H4)
      | ((with_reducible refine (HAd.out _).mono ?_)
         rintro e w6 ⟨rfl, hb6⟩
         have H6 := Lib.hid (H5.out.ext hb6)
         clear hb6 H5)
      | ((with_reducible refine (where_brd H6.out (TabOk.nil 0) _ _ _ (by omega) (by omega) (by omega)).mono ?_)
         rintro e w7 ⟨rfl, hb7⟩
         have H7 := Lib.hid (H6.out.ext hb7)
         clear hb7)
      )
    go_ret
    exact ⟨rfl, HB3.out.trans (H7.out.below.mono HB3.out.size)⟩
end Go.Proofs.Ytoenlcmngdpkmaa

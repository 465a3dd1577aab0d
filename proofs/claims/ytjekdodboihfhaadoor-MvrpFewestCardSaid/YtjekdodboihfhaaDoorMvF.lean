/- The law MvrpFewest. -/
import Derived.Test.YtjekdodboihfhaaDoorMvK
import Derived.Test.YtjekdodboihfhaaDoorMv11
import Derived.Test.YtjekdodboihfhaaDoorTell2At
import Derived.Deep.Slices
set_option linter.all false
namespace Go.Proofs.YtjekdodboihfhaaDoor
open Go.RowKit Go.ChangeShapes Go.WideShapes Go.Deep
set_option maxRecDepth 100000 in
theorem sized_avs {H : Type} {enc : TypeId × Value → H} {ts : List TypeId} {ds : List (DataW H)} {w : World} {b0 : Nat} {sp : Nat → Bool} {hd : Bool} {v : Value} {d : DataW H} {ps : List MemPlace} {R : List ARow} {j : Nat}
    (h : (DataW.weightsEach Tryd.prog ts ds).all (· ≤ reachBytes) = true) (hj : ts[j]? = some 22) (hdj : ds[j]? = some d) (ht : DataW.Trod enc Tryd.prog w b0 sp hd 22 v d ps) (hm : IsAvs w v R) :
    R.length ≤ 140737488355328 := by
  obtain ⟨A, cap, rfl, _⟩ := hm
  obtain ⟨fuel, ht⟩ := ht
  have hr := reachBytes_lt
  rcases open_slice Tryd.underlying22 ht with ⟨e1, _⟩ | ⟨a, len, cap', m, n, D, Pl, e1, _, hl, hm, hmm, e2, hx⟩
  · have e1 : [Value.slice A R.length cap] = [Value.slice none 0 0] := e1
    injection e1 with e1 _
    injection e1 with _ e1 _
    omega
  · have e1 : [Value.slice A R.length cap] = [Value.slice (some a) len cap'] := e1
    injection e1 with e1 _
    injection e1 with _ e1 _
    have hd : d = _ := (Prod.mk.inj e2).1
    rw [hd] at hdj
    have hs := sized_slice h hj hdj Tryd.underlying22
    have hbb : Tryd.prog.bytesOf 38 = 40 := by kernel_rfl
    rw [hbb, List.length_map, List.length_range] at hs
    omega
set_option maxRecDepth 100000 in
set_option maxHeartbeats 2000000 in
theorem lots_big (R : List ARow) (n : Nat) (hlen : R.length = n) (A : Option Addr) (c : Nat) (w : World) (hn : n ≤ 9223372036854775807) (h : AvsAt w R A) (hb : n + (eachM (R.map ARow.a)).length ≤ 4611686018427387904) :
    Calls Tryd.prog 6 #[.slice A n c] w fun e w' => e = .returned (.bool (decide (1500 < n + (eachM (R.map ARow.a)).length))) ∧ Below w.heap.size w w' := by
  have H := Lib.hid h
  have Hlen := Lib.hid hlen
  have Hb0 := Lib.hid hb
  clear h hlen hb
  go_enter Tryd.func6, Tryd.ntmps6
  go_wp2_with fail
  go_loopw [3, 5, 10] (fun s3 _ i wr => ∃ (k x : Nat), k ≤ n ∧ s3 = .int .i64 (x : Int) ∧ Hid (x = n + (eachM ((R.map ARow.a).take k)).length) ∧ i = .int .i64 k ∧ Hid (Below w.heap.size w wr)) (fun _ _ i _ => n - (intOf i).toNat)
  case atStart => exact ⟨0, n, by omega, rfl, Lib.hid rfl, rfl, Lib.hid (Below.refl _ _)⟩
  case round =>
    obtain ⟨k, x, hk, rfl, Hx, rfl, Hb⟩ := hrel
    by_cases hlt : k < n
    · have hkx : k < R.length := by rw [Hlen.out]; exact hlt
      obtain ⟨g, o, rfl, hg, hc⟩ := H.out.row (by rw [List.length_map]; omega)
      have h1 := hc k (by rw [List.length_map]; exact hkx)
      have e1 : (R.map ARow.vals)[k]'(by rw [List.length_map]; exact hkx) = R[k].vals := by simp
      rw [e1] at h1
      obtain ⟨A1, cap1, hsv, _, hs1⟩ := H.out.evs R[k] (List.getElem_mem hkx)
      have hst := eachM_step (R.map ARow.a) k (by rw [List.length_map]; exact hkx)
      have ea : (R.map ARow.a)[k]'(by rw [List.length_map]; exact hkx) = R[k].a := by simp
      rw [ea] at hst
      have hle := eachM_take_le (R.map ARow.a) (k + 1)
      have hlen1 : (eachM ((R.map ARow.a).take (k + 1))).length = (eachM ((R.map ARow.a).take k)).length + R[k].a.evs.length := by rw [hst, List.length_append, eachK_len]
      have H1 := Lib.hid (rangeAt_below h1 Hb.out hg)
      have lg1 := Nat.lt_of_lt_of_le hg Hb.out.size
      clear hc e1 h1 hs1 ea hst
      generalize R[k] = r at *
      have O1 : Hid (∀ v ∈ r.vals, v.oneCell' = true) := Lib.hid (Av.one r.a r.sv (by rw [hsv]; rfl))
      obtain ⟨m, hm⟩ : ∃ m, r.a.evs.length = m := ⟨_, rfl⟩
      rw [hm] at hsv hlen1
      have Hsv := Lib.hid hsv
      have hxm : x + m ≤ 4611686018427387904 := by have := Hx.out; have := Hb0.out; omega
      have HX1 : Hid (x + m = n + (eachM ((R.map ARow.a).take (k + 1))).length) := Lib.hid (by have := Hx.out; omega)
      clear hsv hm hle hlen1
      have hbsz := Hb.out.size
      have H0 := Lib.hid (St.init wr)
      go_upto_region 5 with (first
        | (with_reducible refine wpList_load_rng (ty := 38) r.vals (by with_unfolding_all rfl) H1.out Tryd.underlying38 (by with_unfolding_all rfl) (by with_unfolding_all exact info38) ?_)
        | ((with_reducible refine wpList_store_blk (ty := 38) (b := ?b2) (o := ?o2) (t := 38) zAv r.vals ?hx2 ?hy2 ?hB2 ?ho2 ?hi2 ?h12 ?hk2)
           case hx2 => rfl
           case hy2 => rfl
           case hB2 => exact Blk.new wr zAv 38
           case ho2 => exact Nat.le_refl _
           case hi2 => exact info38
           case h12 => exact O1.out
           intro W4 hBW4 hoW4))
      have H4 := Lib.hid ((H0.out.alloc zAv 38).sets (L' := r.vals) hBW4 hoW4)
      clear hBW4 hoW4 H0 H1
      have c2 : W4.cell? ⟨wr.heap.size, 2, none⟩ = some r.sv := (Blk.box (H4.out.at 0 rfl)).cell 2
      rw [Hsv.out] at c2
      have Hb5 := Lib.hid (Hb.out.trans (H4.out.below.mono (by omega)))
      generalize wr.heap.size = P1 at *
      go_wp2_with fail
      go_roundw
      case rel => exact ⟨k + 1, x + m, by omega, by go_num, HX1, by go_num, Hb5⟩
      case measure => simp [intOf]; omega
    · obtain rfl : k = n := by omega
      have ht : (R.map ARow.a).take k = R.map ARow.a := List.take_of_length_le (by rw [List.length_map, Hlen.out]; exact Nat.le_refl _)
      rw [ht] at Hx
      have hbb : (decide (1500 < (x : Int))) = decide (1500 < k + (eachM (R.map ARow.a)).length) := by rw [decide_eq_decide]; have := Hx.out; omega
      have HBB := Lib.hid hbb
      clear hbb
      go_wp2_with fail
      go_ret
      exact ⟨by rw [← HBB.out]; rfl, Hb.out⟩
theorem pr_ownF {w : World} {sv : Value} {L : List Pr} (h : (ownI 44 2 sv L.length (prRow L)).P w) : ∃ A cap, sv = .slice A L.length cap ∧ SlRow w w.heap.size 2 A (L.map Pr.vals) := by
  obtain ⟨A, cap, hv, _, hr⟩ := own_row (C := L.map Pr.vals) (n := L.length) (size := 2) h (fun c hc => by obtain ⟨t, _, rfl⟩ := List.mem_map.1 hc; rfl) (List.length_map ..)
  refine ⟨A, cap, hv, fun hn => ?_⟩
  obtain ⟨g, rfl, _, hg, hk⟩ := hr (by rwa [List.length_map] at hn)
  exact ⟨g, 0, rfl, hg, fun k hk' => by rw [Nat.zero_add]; exact hk k hk'⟩
theorem each_len_le (R : List ARow) (h : ∀ r ∈ R, r.a.okB = true) : (eachM (R.map ARow.a)).length ≤ 400 * R.length := by
  induction R with
  | nil => simp [eachM]
  | cons r R ih =>
    have e : eachM ((r :: R).map ARow.a) = eachK r.a r.a.evs.length ++ eachM (R.map ARow.a) := rfl
    obtain ⟨_, _, _, h4, _⟩ := Av.ok_iff.1 (h r (by simp))
    have := ih (fun x hx => h x (by simp [hx]))
    rw [e, List.length_append, eachK_len, List.length_cons]
    omega
set_option maxRecDepth 100000 in
set_option maxHeartbeats 1000000 in
theorem few1_any {R : List ARow} {A : Option Addr} {w : World} (h : AvsAt w R A) (hbig : ∀ r ∈ R, r.a.evs.length ≤ 9223372036854775807) {r : ARow} (hr : r ∈ R) (W : World) (hb : Below w.heap.size w W) :
    Calls Tryd.prog 12 #[.agg r.vals.toArray] W fun e w' => e = .returned (.bool (!r.a.okB)) ∧ Below W.heap.size W w' := by
  have HB := Lib.hid (Box.new W r.vals 38)
  have hb0 : Below W.heap.size W (W.alloc (.cells r.vals.toArray 38)) := (Below.refl _ _).alloc (Nat.le_refl _) _
  have HR := Lib.hid (right_at h hbig hr _ (hb.trans (hb0.mono hb.size)))
  clear h hbig hr hb
  go_enter Tryd.func12, Tryd.ntmps12
  go_upto_region 1 with (fail)
  generalize World.alloc _ _ = W0 at *
  go_wp2_with (first
    | (with_reducible refine wpList_load_rng (ty := 38) r.vals (by with_unfolding_all rfl) HB.out.range Tryd.underlying38 (by with_unfolding_all rfl) (by with_unfolding_all exact info38) ?_)
    | ((with_reducible refine HR.out.mono ?_)
       rintro e w1 ⟨rfl, hb1⟩
       skip))
  go_ret
  exact ⟨rfl, hb0.trans (hb1.mono hb0.size)⟩
set_option maxRecDepth 100000 in
set_option maxHeartbeats 1000000 in
theorem few2_any {R : List ARow} {A : Option Addr} {w : World} (h : AvsAt w R A) (hbig : ∀ r ∈ R, r.a.evs.length ≤ 9223372036854775807) {r : ARow} (hr : r ∈ R) (hok : r.a.okB = true) (hall : r.a.all = false) (W : World) (hb : Below w.heap.size w W) :
    Calls Tryd.prog 17 #[.agg r.vals.toArray] W fun e w' => e = .returned (.bool false) ∧ Below W.heap.size W w' := by
  have HB := Lib.hid (Box.new W r.vals 38)
  have hb0 : Below W.heap.size W (W.alloc (.cells r.vals.toArray 38)) := (Below.refl _ _).alloc (Nat.le_refl _) _
  have hR := right_at h hbig hr _ (hb.trans (hb0.mono hb.size))
  rw [hok] at hR
  have HR := Lib.hid hR
  have hlt : W.heap.size < (W.alloc (.cells r.vals.toArray 38)).heap.size := by simp
  have hc0 := HB.out.cell 0
  have HC0 : Hid ((W.alloc (.cells r.vals.toArray 38)).cell? ⟨W.heap.size, 0, none⟩ = some (.bool false)) := Lib.hid (by rw [hc0, ← hall]; rfl)
  clear h hbig hr hb hR hc0
  go_enter Tryd.func17, Tryd.ntmps17
  go_upto_region 1 with (fail)
  generalize World.alloc _ _ = W0 at *
  go_wp2_with (first
    | (with_reducible refine wpList_load_rng (ty := 38) r.vals (by with_unfolding_all rfl) HB.out.range Tryd.underlying38 (by with_unfolding_all rfl) (by with_unfolding_all exact info38) ?_)
    | ((with_reducible refine HR.out.mono ?_)
       rintro e w1 ⟨rfl, hb1⟩
       have c0 := laterc HC0.out hb1 hlt))
  go_ret
  exact ⟨rfl, hb0.trans (hb1.mono hb0.size)⟩
set_option maxRecDepth 100000 in
set_option maxHeartbeats 4000000 in
theorem law_MvrpFewest (v0 : Value) (R : List ARow) (w : World) (hv0 : IsAvs w v0 R) (hz : R.length ≤ 140737488355328) (hE : ErrVar w) :
    Calls Tryd.prog 4 #[v0] w fun e w' => e = .returned (.bool true) ∧ Below w.heap.size w w' := by
  obtain ⟨A, cap, rfl, hcap, hn, hA, hbig⟩ := hv0
  obtain ⟨n, hlen⟩ : ∃ n, R.length = n := ⟨_, rfl⟩
  rw [hlen] at hn hcap hz ⊢
  have HE := Lib.hid hE
  have HA := Lib.hid hA
  have Hlen := Lib.hid hlen
  have Hbig := Lib.hid hbig
  have HD := Lib.hid (wanted_any w)
  have HF : Hid (∀ W, Below w.heap.size w W → Calls Tryd.prog 11 #[.slice A n cap, .func (.func 12) #[] #[]] W fun e w' => e = .returned (.bool (R.any fun r => !r.a.okB)) ∧ Below W.heap.size W w') := Lib.hid (fun W hb =>
    anyf_av (fun r => !r.a.okB) R n hlen A cap 12 #[] W hn (hA.below hb).row (fun args X => by kernel_rfl) (fun r hr X hX => few1_any hA hbig hr X (hb.trans (hX.mono hb.size))))
  by_cases hall : ∀ r ∈ R, r.a.okB = true
  case neg =>
    have hbad : (R.any fun r => !r.a.okB) = true := by
      refine Classical.byContradiction fun hno => hall fun r hr => ?_
      cases e : r.a.okB
      · exact (hno (List.any_eq_true.2 ⟨r, hr, by rw [e]; rfl⟩)).elim
      · rfl
    rw [hbad] at HF
    have HL : Hid (∀ W, Below w.heap.size w W → Calls Tryd.prog 6 #[.slice A n cap] W fun e w' => (∃ b, e = .returned (.bool b)) ∧ Below W.heap.size W w') := Lib.hid (fun W hb => lots_any R n hlen A cap W hn (hA.below hb))
    clear hA hlen hbig hcap hE hbad hall
    go_enter Tryd.func4, Tryd.ntmps4
    go_upto_region 3 with (first
      | ((with_reducible refine HD.out.mono ?_)
         rintro e w1 ⟨rfl, hb1⟩
         have HB1 := Lib.hid hb1
         clear hb1))
    go_wp2_with fail
    refine (HL.out _ HB1.out).mono ?_
    rintro e w2 ⟨⟨b, rfl⟩, hb2⟩
    have HB2 := Lib.hid (HB1.out.trans (hb2.mono HB1.out.size))
    clear hb2 HL
    cases b
    · go_wp2_with (first
        | ((with_reducible refine (HF.out _ HB2.out).mono ?_)
           rintro e w3 ⟨rfl, hb3⟩
           have HB3 := Lib.hid (HB2.out.trans (hb3.mono HB2.out.size))
           clear hb3))
      go_ret
      exact ⟨rfl, HB3.out⟩
    · go_wp2_with fail
      go_ret
      exact ⟨rfl, HB2.out⟩
  case pos =>
  have hgood : (R.any fun r => !r.a.okB) = false := by
    rw [List.any_eq_false]
    intro r hr
    rw [hall r hr]; simp
  rw [hgood] at HF
  have hle := each_len_le R hall
  rw [hlen] at hle
  have HL : Hid (∀ W, Below w.heap.size w W → Calls Tryd.prog 6 #[.slice A n cap] W fun e w' => e = .returned (.bool (decide (1500 < n + (eachM (R.map ARow.a)).length))) ∧ Below W.heap.size W w') := Lib.hid (fun W hb => lots_big R n hlen A cap W hn (hA.below hb) (by omega))
  have halla : ∀ a ∈ R.map ARow.a, a.okB = true := fun a ha => by
    obtain ⟨r, hr, rfl⟩ := List.mem_map.1 ha
    exact hall r hr
  have HP := Lib.hid (each_okP (R.map ARow.a) halla)
  have HPL : Hid ((packM (eachM (R.map ARow.a))).length ≤ n) := Lib.hid (by have := pack_le (R.map ARow.a) halla; rw [List.length_map, hlen] at this; exact this)
  have HSp := Lib.hid (pack_spec (eachM (R.map ARow.a)) HP.out)
  clear hgood hle halla hall
  obtain ⟨E, hEq⟩ : ∃ E, eachM (R.map ARow.a) = E := ⟨_, rfl⟩
  by_cases hlot : 1500 < n + (eachM (R.map ARow.a)).length
  · rw [decide_eq_true hlot] at HL
    clear hA hlen hbig hcap hE hlot
    go_enter Tryd.func4, Tryd.ntmps4
    go_wp2_with (first
      | ((with_reducible refine HD.out.mono ?_)
         rintro e w1 ⟨rfl, hb1⟩
         have HB1 := Lib.hid hb1
         clear hb1)
      | ((with_reducible refine (HL.out _ HB1.out).mono ?_)
         rintro e w2 ⟨rfl, hb2⟩
         have HB2 := Lib.hid (HB1.out.trans (hb2.mono HB1.out.size))
         clear hb2))
    go_ret
    exact ⟨rfl, HB2.out⟩
  rw [decide_eq_false hlot] at HL
  have HEa : Hid (∀ W, Below w.heap.size w W → Calls Tryd.prog 14 #[.slice A n cap] W fun e w' => ∃ A2 c2, e = .returned (.slice A2 E.length c2) ∧ SlRow w' w'.heap.size 2 A2 (E.map Pr.vals) ∧ Below W.heap.size W w') := Lib.hid (fun W hb => (each_any R n hlen A cap W hn (hA.below hb) (by omega)).mono fun e w' h => by
    obtain ⟨sv, e1, h1⟩ := h
    obtain ⟨A2, c2, e2, h2⟩ := pr_ownF h1.head
    rw [hEq] at e2 h2
    exact ⟨A2, c2, by rw [e1, e2], h2, h1.below⟩)
  rw [hEq] at hlot HP HPL HSp
  obtain ⟨N, hN⟩ : ∃ N, E.length = N := ⟨_, rfl⟩
  rw [hN] at hlot HEa
  have HN := Lib.hid hN
  have hN5 : N ≤ 1500 ∧ n ≤ 1500 := by omega
  obtain ⟨hN5, hn5⟩ := hN5
  have HPk : Hid (∀ W A3 c3, SlRow W W.heap.size 2 A3 (E.map Pr.vals) → Calls Tryd.prog 15 #[.slice A3 N c3] W fun e w' => PackGot E e w' ∧ Below W.heap.size W w') := Lib.hid (fun W A3 c3 h => pack_any E N hN A3 c3 W (by omega) h HP.out)
  clear hA hlen hbig hcap hE hlot hEq hN
  go_enter Tryd.func4, Tryd.ntmps4
  go_upto_region 6 with (first
    | ((with_reducible refine HD.out.mono ?_)
       rintro e w1 ⟨rfl, hb1⟩
       have HB1 := Lib.hid hb1
       clear hb1)
    | ((with_reducible refine (HL.out _ HB1.out).mono ?_)
       rintro e w2 ⟨rfl, hb2⟩
       have HB2 := Lib.hid (HB1.out.trans (hb2.mono HB1.out.size))
       clear hb2)
    | ((with_reducible refine (HF.out _ HB2.out).mono ?_)
       rintro e w3 ⟨rfl, hb3⟩
       have HB3 := Lib.hid (HB2.out.trans (hb3.mono HB2.out.size))
       clear hb3)
    | ((with_reducible refine (HEa.out _ HB3.out).mono ?_)
       rintro e w4 ⟨A4, c4, rfl, hr4, hb4⟩
       have HR4 := Lib.hid hr4
       have HB4 := Lib.hid (HB3.out.trans (hb4.mono HB3.out.size))
       clear hb4 hr4))
  go_wp2_with fail
  refine (HPk.out _ A4 c4 HR4.out).mono ?_
  rintro e w5 ⟨hG, hb5⟩
  have HB5 := Lib.hid (HB4.out.trans (hb5.mono HB4.out.size))
  have HR5 : Hid (SlRow w5 w5.heap.size 2 A4 (E.map Pr.vals)) := Lib.hid ((HR4.out.below hb5 (Nat.le_refl _)).more hb5.size)
  clear hb5 HR4
  by_cases hrs : Rise E E.length
  · obtain ⟨L, A6, c6, hLm, rfl, hav⟩ := hG.1 hrs
    have hLl : L.length = (packM E).length := by rw [← hLm, List.length_map]
    have hav0 := hav
    obtain ⟨q, hq⟩ : ∃ q, L.length = q := ⟨_, rfl⟩
    have hqn0 : q ≤ n := by have := HPL.out; omega
    have hLP : ∀ r ∈ L, Packed r.a := fun r hr => HSp.out.2 r.a (by rw [← hLm]; exact List.mem_map.2 ⟨r, hr, rfl⟩)
    have hLbig : ∀ r ∈ L, r.a.evs.length ≤ 9223372036854775807 := fun r hr => by
      obtain ⟨_, _, _, h4, _⟩ := Av.ok_iff.1 (hLP r hr).ok
      omega
    have hLE : eachM (L.map ARow.a) = E := by rw [hLm]; exact HSp.out.1
    have hfin : ∀ X, Below w5.heap.size w5 X →
        (Calls Tryd.prog 14 #[.slice A6 q c6] X fun e w' => ∃ A2 c2, e = .returned (.slice A2 N c2) ∧ SlRow w' w'.heap.size 2 A2 (E.map Pr.vals) ∧ Below X.heap.size X w') ∧
        (∀ Y A2 c2, Below X.heap.size X Y → SlRow Y Y.heap.size 2 A2 (E.map Pr.vals) → Calls Tryd.prog 16 #[.slice A2 N c2, .slice A4 N c4] Y fun e w' => e = .returned (.bool true) ∧ Below Y.heap.size Y w') ∧
        (∀ Y, Below X.heap.size X Y → Calls Tryd.prog 11 #[.slice A6 q c6, .func (.func 17) #[] #[]] Y fun e w' => e = .returned (.bool false) ∧ Below Y.heap.size Y w') := fun X hX => by
      have havX := hav0.below hX
      refine ⟨(each_any L q hq A6 c6 X (by omega) havX (by rw [hLE, HN.out]; omega)).mono fun e w' h => ?_, fun Y A2 c2 hY hr2 => prEq_any E N HN.out A2 A4 c2 c4 Y (by omega) hr2 ((HR5.out.below (hX.trans (hY.mono hX.size)) (Nat.le_refl _)).more (hX.trans (hY.mono hX.size)).size), fun Y hY => ?_⟩
      · obtain ⟨sv, e1, h1⟩ := h
        obtain ⟨A2, c2, e2, h2⟩ := pr_ownF h1.head
        rw [hLE] at e2 h2
        rw [HN.out] at e2
        exact ⟨A2, c2, by rw [e1, e2], h2, h1.below⟩
      · have havY := havX.below hY
        have h := anyf_av (fun _ => false) L q hq A6 c6 17 #[] Y (by omega) havY.row (fun args Z => by kernel_rfl) (fun r hr Z hZ => few2_any havY hLbig hr (hLP r hr).ok (hLP r hr).all Z hZ)
        have e0 : (L.any fun _ => false) = false := by simp
        rw [e0] at h
        exact h
    have HFin := Lib.hid hfin
    have Hrs := Lib.hid hrs
    rw [hq] at *
    clear hfin hLE hLbig hLP hav0 hav hLl hLm hG hrs
    have HPOSZ : True := trivial
    go_upto_region 8 with (fail)
    go_loopw [6] (fun s6 wr => ∃ k : Nat, 1 ≤ k ∧ (k ≤ N ∨ k = 1) ∧ s6 = .int .i64 (k : Int) ∧ Hid (Rise E k) ∧ Hid (Below w5.heap.size w5 wr)) (fun s6 _ => N + 1 - (intOf s6).toNat)
    case atStart => exact ⟨1, Nat.le_refl _, Or.inr rfl, rfl, Lib.hid (fun i _ h => by omega), Lib.hid (Below.refl _ _)⟩
    case round =>
      obtain ⟨k, hk1, hkN, rfl, HRi, Hb⟩ := hrel
      obtain ⟨j, rfl⟩ : ∃ j, k = j + 1 := ⟨k - 1, by omega⟩
      by_cases hkl : j + 1 < N
      · obtain ⟨g4, o4, rfl, hg4, hc4⟩ := HR5.out (by rw [List.length_map, HN.out]; omega)
        have HC4 := Lib.hid hc4
        clear hc4
        have hlg := Nat.lt_of_lt_of_le hg4 Hb.out.size
        have hkI : (j : Int) + 1 < (N : Int) := by omega
        have hx1 : j + 1 < E.length := by rw [HN.out]; exact hkl
        have d1 : wr.cell? ⟨g4, o4 + (j + 1) * 2, none⟩ = some (.int .i64 E[j + 1].vid) := by
          have h := rangeAt_below (HC4.out (j + 1) (by rw [List.length_map]; exact hx1)) Hb.out hg4
          exact h 0 _ (by simp)
        have d2 : wr.cell? ⟨g4, o4 + j * 2, none⟩ = some (.int .i64 E[j].vid) := by
          have h := rangeAt_below (HC4.out j (by rw [List.length_map]; omega)) Hb.out hg4
          exact h 0 _ (by simp)
        by_cases hv : E[j + 1].vid ≤ E[j].vid
        · exact absurd (Hrs.out j hx1 (by omega)) (by omega)
        · have HRn : Hid (Rise E (j + 1 + 1)) := Lib.hid (fun i hi hik => by
            by_cases e : i = j
            · subst e; omega
            · exact HRi.out i hi (by omega))
          generalize E[j + 1].vid = va at *
          generalize E[j].vid = vb at *
          go_upto_region 10 with (fail)
          refine wp_region_ext (by kernel_rfl) (by kernel_rfl) ?_
          repeat (go_big_quiet_step (fail))
          refine wpQuiet_nil ?_
          rintro w15 ⟨⟨_, hb15⟩, rfl⟩
          try simp only [] at *
          have Hb2 := Lib.hid (Hb.out.trans (hb15.mono Hb.out.size))
          clear hb15 d1 d2
          go_wp2_with fail
          go_roundw
          case rel => exact ⟨j + 1 + 1, by omega, Or.inl (by omega), by go_num, HRn, Hb2⟩
          case measure => simp [intOf]; omega
      · have hkI : ¬ (j : Int) + 1 < (N : Int) := by omega
        have Hb5x := Lib.hid (HB5.out.trans (Hb.out.mono HB5.out.size))
        have hx := HFin.out wr Hb.out
        obtain ⟨x1, x2, x3⟩ := hx
        have X1 := Lib.hid x1
        have X2 := Lib.hid x2
        have X3 := Lib.hid x3
        clear x1 x2 x3
        have hqn : (q : Int) ≤ (n : Int) := by omega
        go_wp2_with (first
          | ((with_reducible refine X1.out.mono ?_)
             rintro e w16 ⟨A16, c16, rfl, hr16, hb16⟩
             have HQ := Lib.hid (X2.out w16 A16 c16 hb16 hr16)
             have HB16 := Lib.hid hb16
             clear hb16 hr16)
          | ((with_reducible refine HQ.out.mono ?_)
             rintro e w17 ⟨rfl, hb17⟩
             have HB17 := Lib.hid (HB16.out.trans (hb17.mono HB16.out.size))
             clear hb17)
          | ((with_reducible refine (X3.out _ HB17.out).mono ?_)
             rintro e w18 ⟨rfl, hb18⟩
             have HB18 := Lib.hid (HB17.out.trans (hb18.mono HB17.out.size))
             clear hb18))
        go_ret
        exact ⟨rfl, Hb5x.out.trans (HB18.out.mono Hb5x.out.size)⟩
  · obtain ⟨g, rfl, hg⟩ := hG.2 hrs
    have Hg := Lib.hid hg
    have hgl := World.block_lt_of_cell? w5 _ hg
    clear hg hG
    go_upto_region 8 with (fail)
    go_loopw [6] (fun s6 wr => ∃ k : Nat, 1 ≤ k ∧ (k ≤ N ∨ k = 1) ∧ s6 = .int .i64 (k : Int) ∧ Hid (Rise E k) ∧ Hid (Below w5.heap.size w5 wr)) (fun s6 _ => N + 1 - (intOf s6).toNat)
    case atStart => exact ⟨1, Nat.le_refl _, Or.inr rfl, rfl, Lib.hid (fun i _ h => by omega), Lib.hid (Below.refl _ _)⟩
    case round =>
      obtain ⟨k, hk1, hkN, rfl, HRi, Hb⟩ := hrel
      obtain ⟨j, rfl⟩ : ∃ j, k = j + 1 := ⟨k - 1, by omega⟩
      by_cases hkl : j + 1 < N
      · obtain ⟨g4, o4, rfl, hg4, hc4⟩ := HR5.out (by rw [List.length_map, HN.out]; omega)
        have HC4 := Lib.hid hc4
        clear hc4
        have hlg := Nat.lt_of_lt_of_le hg4 Hb.out.size
        have hkI : (j : Int) + 1 < (N : Int) := by omega
        have hx1 : j + 1 < E.length := by rw [HN.out]; exact hkl
        have d1 : wr.cell? ⟨g4, o4 + (j + 1) * 2, none⟩ = some (.int .i64 E[j + 1].vid) := by
          have h := rangeAt_below (HC4.out (j + 1) (by rw [List.length_map]; exact hx1)) Hb.out hg4
          exact h 0 _ (by simp)
        have d2 : wr.cell? ⟨g4, o4 + j * 2, none⟩ = some (.int .i64 E[j].vid) := by
          have h := rangeAt_below (HC4.out j (by rw [List.length_map]; omega)) Hb.out hg4
          exact h 0 _ (by simp)
        by_cases hv : E[j + 1].vid ≤ E[j].vid
        · generalize E[j + 1].vid = va at *
          generalize E[j].vid = vb at *
          go_upto_region 10 with (fail)
          refine wp_region_ext (by kernel_rfl) (by kernel_rfl) ?_
          repeat (go_big_quiet_step (fail))
          refine wpQuiet_nil ?_
          rintro w15 ⟨⟨_, hb15⟩, rfl⟩
          try simp only [] at *
          have Hb2 := Lib.hid (Hb.out.trans (hb15.mono Hb.out.size))
          have HBx := Lib.hid (HB5.out.trans (Hb2.out.mono HB5.out.size))
          clear hb15 d1 d2
          have HT := Lib.hid (tell_at g 10 w15 (HE.out.keep HBx.out) (laterc Hg.out Hb2.out hgl))
          go_wp2_with (first
            | ((with_reducible refine HT.out.mono ?_)
               rintro e w16 ⟨rfl, hb16⟩
               have HB16 := Lib.hid (HBx.out.trans (hb16.mono HBx.out.size))
               clear hb16))
          go_ret
          exact ⟨rfl, HB16.out⟩
        · have HRn : Hid (Rise E (j + 1 + 1)) := Lib.hid (fun i hi hik => by
            by_cases e : i = j
            · subst e; omega
            · exact HRi.out i hi (by omega))
          generalize E[j + 1].vid = va at *
          generalize E[j].vid = vb at *
          go_upto_region 10 with (fail)
          refine wp_region_ext (by kernel_rfl) (by kernel_rfl) ?_
          repeat (go_big_quiet_step (fail))
          refine wpQuiet_nil ?_
          rintro w15 ⟨⟨_, hb15⟩, rfl⟩
          try simp only [] at *
          have Hb2 := Lib.hid (Hb.out.trans (hb15.mono Hb.out.size))
          clear hb15 d1 d2
          go_wp2_with fail
          go_roundw
          case rel => exact ⟨j + 1 + 1, by omega, Or.inl (by omega), by go_num, HRn, Hb2⟩
          case measure => simp [intOf]; omega
      · have hkI : ¬ (j : Int) + 1 < (N : Int) := by omega
        exact (hrs (fun i hi _ => HRi.out i hi (by have := HN.out; omega))).elim
end Go.Proofs.YtjekdodboihfhaaDoor

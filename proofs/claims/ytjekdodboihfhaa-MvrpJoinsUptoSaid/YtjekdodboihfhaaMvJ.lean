/- The law MvrpJoins, where what comes in is of bounded bulk. -/
import Derived.Test.YtjekdodboihfhaaRows
import Derived.Test.YtjekdodboihfhaaMv14
import Derived.Test.YtjekdodboihfhaaMv11
set_option linter.all false
namespace Go.Proofs.Ytjekdodboihfhaa
open Go.RowKit Go.ChangeShapes Go.WideShapes Go.Deep
section
variable {H : Type} {enc : TypeId × Value → H} {w : World} {base : Nat} {sp : Nat → Bool} {hd : Bool}
theorem bulk_sum {α : Type} (wt : α → Nat) (f : Nat → α) (D : Nat → DataW H) : ∀ l : List Nat, (∀ i ∈ l, wt (f i) ≤ Rows.uptoBulk (D i)) → ((l.map f).map wt).sum ≤ Rows.uptoBulkAll (l.map D)
  | [], _ => by simp [Rows.uptoBulkAll]
  | i :: l, h => by
    have h1 := h i (by simp)
    have h2 := bulk_sum wt f D l (fun j hj => h j (by simp [hj]))
    simp only [List.map_cons, List.sum_cons, Rows.uptoBulkAll]
    omega
/-- A slice whose elements read: its rows, and how much they weigh. -/
theorem slice_rowsB {α : Type} [Inhabited α] {t e : TypeId} {fuel : Nat} {cs : List Value} {x : DataW H × List MemPlace} {P : Program} (ht : P.underlying t = some (.slice e)) {s : Nat} (hs : P.cellsOf e = s) (h0 : 0 < s) (vals : α → List Value)
    (Q : α → Prop) (wt : α → Nat) (he : ∀ (m : Nat) (cs : List Value) (y : DataW H × List MemPlace), DataW.trod enc P w base sp hd m e cs = some y → ∃ a, cs = vals a ∧ Q a ∧ wt a ≤ Rows.uptoBulk y.1)
    (h : DataW.trod enc P w base sp hd fuel t cs = some x) :
    ∃ (A : Option Addr) (L : List α) (cap : Nat), cs = [.slice A L.length cap] ∧ L.length ≤ cap ∧ L.length ≤ 9223372036854775807 ∧ (∀ a ∈ L, Q a) ∧ SlRow w w.heap.size s A (L.map vals) ∧ (L.map wt).sum ≤ Rows.uptoBulk x.1 := by
  rcases open_slice ht h with ⟨e1, e2⟩ | ⟨a, len, cap, m, n, D, Pl, e1, _, hl, hm, hmm, e2, hx⟩
  · exact ⟨none, [], 0, e1, by simp, by simp, by simp, fun hn => by simp at hn, by simp⟩
  · have hlm : len ≤ m := by rw [hmm]; split <;> omega
    obtain ⟨f, hf⟩ := choose_lt (n := len) (p := fun i (y : α) => w.cells? base (a.add (i * s)) s = some (vals y) ∧ Q y ∧ wt y ≤ Rows.uptoBulk (D i)) (fun i hi => by
      obtain ⟨cs', h1, h2⟩ := hx i (by omega)
      rw [hs] at h1
      obtain ⟨y, rfl, hq, hw⟩ := he _ _ _ h2
      exact ⟨y, h1, hq, hw⟩)
    have hm' : cap ≤ 9223372036854775807 := by unfold maxLen at hm; omega
    refine ⟨some a, (List.range len).map f, cap, by simpa using e1, by simpa using hl, by simp; omega, ?_, ?_, ?_⟩
    · intro y hy
      obtain ⟨i, hi, rfl⟩ := List.mem_map.1 hy
      exact (hf i (by simpa using hi)).2.1
    · intro hn
      have hn0 : 0 < len := by simpa using hn
      obtain ⟨_, l1, h1⟩ := World.cells?_some (hf 0 hn0).1
      have h2 := h1 0 h0
      rw [Nat.zero_mul, show (a.add 0).add 0 = a from rfl, List.getElem?_eq_getElem (by omega)] at h2
      obtain ⟨g, o, spot⟩ := a
      have hsp : spot = none := by
        cases spot with
        | none => rfl
        | some b =>
          unfold World.cell? at h2
          split at h2
          · simp at h2
          · cases h2
      subst hsp
      have hg : g < w.heap.size := by
        rcases Nat.lt_or_ge g w.heap.size with hlt | hge
        · exact hlt
        · rw [World.cell?, Array.getElem?_eq_none hge] at h2; cases h2
      refine ⟨g, o, rfl, hg, ?_⟩
      intro k hk j u hj
      simp only [List.length_map, List.length_range] at hk
      simp only [List.getElem_map, List.getElem_range] at hj
      obtain ⟨_, h3, h4⟩ := World.cells?_some (hf k hk).1
      have hjl : j < s := by
        have := (List.getElem?_eq_some_iff.1 hj).1
        rw [h3] at this; exact this
      have := h4 j hjl
      rw [Addr.add_mid, Addr.add_mid] at this
      rw [this, hj]
    · rw [e2]
      have := bulk_sum wt f D (List.range len) (fun i hi => (hf i (by simpa using hi)).2.2)
      simp only [Rows.uptoBulk]
      omega
theorem bulk_part {d : DataW H} {l : List (DataW H)} (h : d ∈ l) : Rows.uptoBulk d ≤ Rows.uptoBulkAll l := by
  induction l with
  | nil => cases h
  | cons x r ih =>
    simp only [Rows.uptoBulkAll]
    cases List.mem_cons.1 h with
    | inl e => subst e; omega
    | inr e => have := ih e; omega
def wtA (r : ARow) : Nat := r.a.evs.length + 1
set_option maxRecDepth 100000 in
theorem trod_attrB {fuel : Nat} {cs : List Value} {x : DataW H × List MemPlace} (h : DataW.trod enc Try.prog w base sp hd fuel 50 cs = some x) : ∃ r : ARow, cs = r.vals ∧ InAv w r ∧ wtA r ≤ Rows.uptoBulk x.1 := by
  obtain ⟨xs, n, _, hx0, hl, hxl, hx⟩ := DataW.trod_struct Try.underlying50 h
  rw [cAv] at hl
  have hxl : xs.length = 3 := hxl
  have h0 : DataW.trod enc Try.prog w base sp hd n 4 ((cs.drop 0).take (Try.prog.cellsOf 4)) = xs[0]? := hx 0 _ rfl
  have h1 : DataW.trod enc Try.prog w base sp hd n 3 ((cs.drop 1).take (Try.prog.cellsOf 3)) = xs[1]? := hx 1 _ rfl
  have h2 : DataW.trod enc Try.prog w base sp hd n 48 ((cs.drop 2).take (Try.prog.cellsOf 48)) = xs[2]? := hx 2 _ rfl
  rw [List.getElem?_eq_getElem (by omega)] at h0 h1 h2
  rw [cAvB] at h0
  rw [cAvI] at h1
  rw [cAvS] at h2
  obtain ⟨b, h0, _⟩ := DataW.trod_bool Try.underlying4 h0
  have h0 := take_one h0
  obtain ⟨n1, h1, _⟩ := int_at Try.underlying3 h1
  obtain ⟨A1, L, cap, e, hc, hm, _, hr, hw⟩ := slice_rowsB (α := Int) Try.underlying48 cAvI (by omega) (fun x => [Value.int .i64 x]) (fun _ => True) (fun _ => 1) (fun m cs y h => by
    obtain ⟨k, h3, h4, _⟩ := DataW.trod_int Try.underlying3 h
    exact ⟨k, h3, trivial, by rw [h4]; simp [Rows.uptoBulk]⟩) h2
  have h2 := take_one e
  have hd0 : x.1 = .agg (xs.map (·.1)) := by rw [hx0]
  have hone : ∀ M : List Int, (M.map fun _ => 1).sum = M.length := fun M => by
    induction M with
    | nil => rfl
    | cons y M ih => rw [List.map_cons, List.sum_cons, List.length_cons, ih, Nat.add_comm]
  have hsum := hone L
  refine ⟨⟨⟨b, n1, L⟩, .slice A1 L.length cap⟩, ?_, ⟨hm, A1, cap, rfl, hc, hr⟩, ?_⟩
  · match cs, hl with
    | [c0, c1, c2], _ =>
      simp only [List.getElem?_cons_zero, List.getElem?_cons_succ, Option.some.injEq] at h0 h1 h2
      rw [h0, h1, h2]; rfl
  · rw [hd0]
    have hp := bulk_part (d := xs[2].1) (l := xs.map (·.1)) (List.mem_map.2 ⟨xs[2], List.getElem_mem _, rfl⟩)
    have : Rows.uptoBulk (DataW.agg (xs.map (·.1))) = Rows.uptoBulkAll (xs.map (·.1)) + 1 := by simp [Rows.uptoBulk]
    rw [this]
    show L.length + 1 ≤ _
    omega
end
set_option maxRecDepth 100000 in
theorem open_avsB {H : Type} {enc : TypeId × Value → H} {w : World} {r : Reach} {base : Nat} {b0 : Nat} {sp : Nat → Bool} {hd : Bool} {v : Value} {d : DataW H} {ps : List MemPlace}
    (hval : Value.okWide Try.prog w r base 44 v) (h : DataW.Trod enc Try.prog w b0 sp hd 44 v d ps) : ∃ L, IsAvs w v L ∧ (L.map wtA).sum ≤ Rows.uptoBulk d := by
  obtain ⟨fuel, h⟩ := h
  obtain ⟨A, L, cap, e, hc, hm, hq, hr, hw⟩ := slice_rowsB (α := ARow) Try.underlying44 cAv (by omega) ARow.vals (InAv w) wtA (fun m cs y h => trod_attrB h) h
  exact ⟨L, ⟨A, cap, slice_val Try.underlying44 hval e, hc, hm, ⟨hr, fun r hr => (hq r hr).2⟩, fun r hr => (hq r hr).1⟩, hw⟩
theorem wt_each (R : List ARow) : (R.map wtA).sum = R.length + (eachM (R.map ARow.a)).length := by
  induction R with
  | nil => rfl
  | cons r R ih =>
    have e : eachM ((r :: R).map ARow.a) = eachK r.a r.a.evs.length ++ eachM (R.map ARow.a) := rfl
    rw [e, List.length_append, eachK_len, List.map_cons, List.sum_cons, List.length_cons, ih]
    unfold wtA
    omega
set_option maxRecDepth 100000 in
set_option maxHeartbeats 2000000 in
theorem lots_is (R : List ARow) (n : Nat) (hlen : R.length = n) (A : Option Addr) (c : Nat) (w : World) (hn : n ≤ 9223372036854775807) (h : AvsAt w R A) (hb : n + (eachM (R.map ARow.a)).length ≤ 1048576) :
    Calls Try.prog 26 #[.slice A n c] w fun e w' => e = .returned (.bool (decide (1500 < n + (eachM (R.map ARow.a)).length))) ∧ Below w.heap.size w w' := by
  have H := Lib.hid h
  have Hlen := Lib.hid hlen
  have Hb0 := Lib.hid hb
  clear h hlen hb
  go_enter Try.func26, Try.ntmps26
  go_wp2_with fail
  go_loopw [3, 5, 10] (fun s3 _ i wr => ∃ (k x : Nat), k ≤ n ∧ s3 = .int .i64 (x : Int) ∧ Hid (x = n + (eachM ((R.map ARow.a).take k)).length) ∧ i = .int .i64 k ∧ Hid (Below w.heap.size w wr)) (fun _ _ i _ => n - (intOf i).toNat)
  case atStart => exact ⟨0, n, by omega, rfl, Lib.hid rfl, rfl, Lib.hid (Below.refl _ _)⟩
  case round =>
    obtain ⟨k, x, hk, rfl, Hx, rfl, Hb⟩ := hrel
    by_cases hlt : k < n
    · have hkx : k < R.length := by rw [Hlen.out]; exact hlt
      obtain ⟨g, o, rfl, hg, hc⟩ := H.out.row (by rw [List.length_map]; omega)
      have h1 := hc k (by rw [List.length_map]; exact hkx)
      have e1 : (R.map ARow.vals)[k]'(by rw [List.length_map]; exact hkx) = R[k].vals := by simp
      rw [e1] at h1
      obtain ⟨A1, cap1, hsv, _, hs1⟩ := H.out.evs R[k] (List.getElem_mem hkx)
      have hst := eachM_step (R.map ARow.a) k (by rw [List.length_map]; exact hkx)
      have ea : (R.map ARow.a)[k]'(by rw [List.length_map]; exact hkx) = R[k].a := by simp
      rw [ea] at hst
      have hle := eachM_take_le (R.map ARow.a) (k + 1)
      have hlen1 : (eachM ((R.map ARow.a).take (k + 1))).length = (eachM ((R.map ARow.a).take k)).length + R[k].a.evs.length := by rw [hst, List.length_append, eachK_len]
      have H1 := Lib.hid (rangeAt_below h1 Hb.out hg)
      have lg1 := Nat.lt_of_lt_of_le hg Hb.out.size
      clear hc e1 h1 hs1 ea hst
      generalize R[k] = r at *
      have O1 : Hid (∀ v ∈ r.vals, v.oneCell' = true) := Lib.hid (Av.one r.a r.sv (by rw [hsv]; rfl))
      obtain ⟨m, hm⟩ : ∃ m, r.a.evs.length = m := ⟨_, rfl⟩
      rw [hm] at hsv hlen1
      have Hsv := Lib.hid hsv
      have hxm : x + m ≤ 1048576 := by have := Hx.out; have := Hb0.out; omega
      have HX1 : Hid (x + m = n + (eachM ((R.map ARow.a).take (k + 1))).length) := Lib.hid (by have := Hx.out; omega)
      clear hsv hm hle hlen1
      have hbsz := Hb.out.size
      have H0 := Lib.hid (St.init wr)
      go_upto_region 5 with (first
        | (with_reducible refine wpList_load_rng (ty := 50) r.vals (by with_unfolding_all rfl) H1.out Try.underlying50 (by with_unfolding_all rfl) (by with_unfolding_all exact info50) ?_)
        | ((with_reducible refine wpList_store_blk (ty := 50) (b := ?b2) (o := ?o2) (t := 50) zAv r.vals ?hx2 ?hy2 ?hB2 ?ho2 ?hi2 ?h12 ?hk2)
           case hx2 => rfl
           case hy2 => rfl
           case hB2 => exact Blk.new wr zAv 50
           case ho2 => exact Nat.le_refl _
           case hi2 => exact info50
           case h12 => exact O1.out
           intro W4 hBW4 hoW4))
      have H4 := Lib.hid ((H0.out.alloc zAv 50).sets (L' := r.vals) hBW4 hoW4)
      clear hBW4 hoW4 H0 H1
      have c2 : W4.cell? ⟨wr.heap.size, 2, none⟩ = some r.sv := (Blk.box (H4.out.at 0 rfl)).cell 2
      rw [Hsv.out] at c2
      have Hb5 := Lib.hid (Hb.out.trans (H4.out.below.mono (by omega)))
      generalize wr.heap.size = P1 at *
      go_wp2_with fail
      go_roundw
      case rel => exact ⟨k + 1, x + m, by omega, by go_num, HX1, by go_num, Hb5⟩
      case measure => simp [intOf]; omega
    · obtain rfl : k = n := by omega
      have ht : (R.map ARow.a).take k = R.map ARow.a := List.take_of_length_le (by rw [List.length_map, Hlen.out]; exact Nat.le_refl _)
      rw [ht] at Hx
      have hbb : (decide (1500 < (x : Int))) = decide (1500 < k + (eachM (R.map ARow.a)).length) := by rw [decide_eq_decide]; have := Hx.out; omega
      have HBB := Lib.hid hbb
      clear hbb
      go_wp2_with fail
      go_ret
      exact ⟨by rw [← HBB.out]; rfl, Hb.out⟩
theorem eachM_concat (R R' : List ARow) : eachM ((R ++ R').map ARow.a) = eachM (R.map ARow.a) ++ eachM (R'.map ARow.a) := by rw [List.map_append, eachM_append]
theorem pr_own {w : World} {sv : Value} {L : List Pr} (h : (ownI 58 2 sv L.length (prRow L)).P w) : ∃ A cap, sv = .slice A L.length cap ∧ SlRow w w.heap.size 2 A (L.map Pr.vals) := by
  have h' : w.ownsRow 0 58 2 sv (L.map Pr.vals).length (L.map Pr.vals).flatten := by rw [List.length_map]; exact h
  obtain ⟨A, cap, e, hr⟩ := mv_own_sl h' (prC_len L)
  rw [List.length_map] at e
  exact ⟨A, cap, e, hr⟩
set_option maxRecDepth 100000 in
set_option maxHeartbeats 4000000 in
theorem law_MvrpJoins (v0 : Value) (R : List ARow) (v1 : Value) (R' : List ARow) (w : World) (hv0 : IsAvs w v0 R) (hv1 : IsAvs w v1 R') (hb0 : (R.map wtA).sum ≤ 1048576) (hb1 : (R'.map wtA).sum ≤ 1048576) :
    Calls Try.prog 10 #[v0, v1] w fun e w' => e = .returned (.bool true) ∧ Below w.heap.size w w' := by
  obtain ⟨A, cap, rfl, hcap, hn, hA, hbig⟩ := hv0
  obtain ⟨A', cap', rfl, hcap', hn', hA', hbig'⟩ := hv1
  rw [wt_each] at hb0 hb1
  obtain ⟨n, hlen⟩ : ∃ n, R.length = n := ⟨_, rfl⟩
  obtain ⟨n', hlen'⟩ : ∃ n', R'.length = n' := ⟨_, rfl⟩
  rw [hlen] at hn hcap hb0 ⊢
  rw [hlen'] at hn' hcap' hb1 ⊢
  have HA := Lib.hid hA
  have HA' := Lib.hid hA'
  have Hlen := Lib.hid hlen
  have Hlen' := Lib.hid hlen'
  have HD := Lib.hid (wanted_any w)
  have HL : Hid (∀ W, Below w.heap.size w W → Calls Try.prog 26 #[.slice A n cap] W fun e w' => e = .returned (.bool (decide (1500 < n + (eachM (R.map ARow.a)).length))) ∧ Below W.heap.size W w') := Lib.hid (fun W hb => lots_is R n hlen A cap W hn (hA.below hb) hb0)
  have HL' : Hid (∀ W, Below w.heap.size w W → Calls Try.prog 26 #[.slice A' n' cap'] W fun e w' => e = .returned (.bool (decide (1500 < n' + (eachM (R'.map ARow.a)).length))) ∧ Below W.heap.size W w') := Lib.hid (fun W hb => lots_is R' n' hlen' A' cap' W hn' (hA'.below hb) hb1)
  clear hA hA' hlen hlen' hbig hbig' hcap hcap'
  go_enter Try.func10, Try.ntmps10
  by_cases h1 : 1500 < n + (eachM (R.map ARow.a)).length
  · rw [decide_eq_true h1] at HL
    clear h1 hb0 hb1
    go_wp2_with (first
      | ((with_reducible refine HD.out.mono ?_)
         rintro e w1 ⟨rfl, hb1⟩
         have HB1 := Lib.hid hb1
         clear hb1)
      | ((with_reducible refine (HL.out _ HB1.out).mono ?_)
         rintro e w2 ⟨rfl, hb2⟩
         have HB2 := Lib.hid (HB1.out.trans (hb2.mono HB1.out.size))
         clear hb2))
    go_ret
    exact ⟨rfl, HB2.out⟩
  by_cases h2 : 1500 < n' + (eachM (R'.map ARow.a)).length
  · rw [decide_eq_false h1] at HL
    rw [decide_eq_true h2] at HL'
    clear h1 h2 hb0 hb1
    go_wp2_with (first
      | ((with_reducible refine HD.out.mono ?_)
         rintro e w1 ⟨rfl, hb1⟩
         have HB1 := Lib.hid hb1
         clear hb1)
      | ((with_reducible refine (HL.out _ HB1.out).mono ?_)
         rintro e w2 ⟨rfl, hb2⟩
         have HB2 := Lib.hid (HB1.out.trans (hb2.mono HB1.out.size))
         clear hb2)
      | ((with_reducible refine (HL'.out _ HB2.out).mono ?_)
         rintro e w3 ⟨rfl, hb3⟩
         have HB3 := Lib.hid (HB2.out.trans (hb3.mono HB2.out.size))
         clear hb3))
    go_ret
    exact ⟨rfl, HB3.out⟩
  rw [decide_eq_false h1] at HL
  rw [decide_eq_false h2] at HL'
  have HE1 : Hid (∀ W, Below w.heap.size w W → Calls Try.prog 34 #[.slice A n cap] W fun e w' => ∃ A2 c2, e = .returned (.slice A2 (eachM (R.map ARow.a)).length c2) ∧ SlRow w' w'.heap.size 2 A2 ((eachM (R.map ARow.a)).map Pr.vals) ∧ Below W.heap.size W w') := Lib.hid (fun W hb => (each_any R n Hlen.out A cap W hn (HA.out.below hb) (by omega)).mono fun e w' h => by
    obtain ⟨sv, e1, h1⟩ := h
    obtain ⟨A2, c2, e2, h2⟩ := pr_own h1.head
    exact ⟨A2, c2, by rw [e1, e2], h2, h1.below⟩)
  have HE2 : Hid (∀ W, Below w.heap.size w W → Calls Try.prog 34 #[.slice A' n' cap'] W fun e w' => ∃ A2 c2, e = .returned (.slice A2 (eachM (R'.map ARow.a)).length c2) ∧ SlRow w' w'.heap.size 2 A2 ((eachM (R'.map ARow.a)).map Pr.vals) ∧ Below W.heap.size W w') := Lib.hid (fun W hb => (each_any R' n' Hlen'.out A' cap' W hn' (HA'.out.below hb) (by omega)).mono fun e w' h => by
    obtain ⟨sv, e1, h1⟩ := h
    obtain ⟨A2, c2, e2, h2⟩ := pr_own h1.head
    exact ⟨A2, c2, by rw [e1, e2], h2, h1.below⟩)
  have hoL : Hid (∀ r ∈ R, ∀ v ∈ r.vals, v.oneCell' = true) := Lib.hid (fun r hr => by
    obtain ⟨A1, c1, e, _⟩ := HA.out.evs r hr
    exact Av.one r.a r.sv (by rw [e]; rfl))
  have hoM : Hid (∀ r ∈ R', ∀ v ∈ r.vals, v.oneCell' = true) := Lib.hid (fun r hr => by
    obtain ⟨A1, c1, e, _⟩ := HA'.out.evs r hr
    exact Av.one r.a r.sv (by rw [e]; rfl))
  go_upto_region 5 with (first
    | ((with_reducible refine HD.out.mono ?_)
       rintro e w1 ⟨rfl, hb1⟩
       have HB1 := Lib.hid hb1
       clear hb1)
    | ((with_reducible refine (HL.out _ HB1.out).mono ?_)
       rintro e w2 ⟨rfl, hb2⟩
       have HB2 := Lib.hid (HB1.out.trans (hb2.mono HB1.out.size))
       clear hb2)
    | ((with_reducible refine (HL'.out _ HB2.out).mono ?_)
       rintro e w3 ⟨rfl, hb3⟩
       have HB3 := Lib.hid (HB2.out.trans (hb3.mono HB2.out.size))
       clear hb3))
  have hb3a : Below w.heap.size w (w3.alloc (.cells #[.slice A n cap, .slice A' n' cap'] 44)) := HB3.out.alloc HB3.out.size _
  have hx0 := (Box.new w3 [.slice A n cap, .slice A' n' cap'] 44).cell 0
  have hx1 := (Box.new w3 [.slice A n cap, .slice A' n' cap'] 44).cell 1
  have HC := concatA_any R R' A A' cap cap' w3.heap.size (w3.alloc (.cells #[.slice A n cap, .slice A' n' cap'] 44)) (by have := Hlen.out; omega) (by have := Hlen'.out; omega) (by simp)
    (by rw [Hlen.out]; exact hx0) (by rw [Hlen'.out]; exact hx1) hoL hoM (HA.out.below hb3a).row (HA'.out.below hb3a).row
  have HB3a := Lib.hid hb3a
  have HCc := Lib.hid HC
  clear HC hb3a hx0 hx1 HL HL' HD
  obtain ⟨E, hE⟩ : ∃ E, eachM (R.map ARow.a) = E := ⟨_, rfl⟩
  obtain ⟨E', hE'⟩ : ∃ E, eachM (R'.map ARow.a) = E := ⟨_, rfl⟩
  obtain ⟨m, hm⟩ : ∃ m, E.length = m := ⟨_, rfl⟩
  obtain ⟨m', hm'⟩ : ∃ m, E'.length = m := ⟨_, rfl⟩
  rw [hE] at HE1 hb0 h1
  rw [hE'] at HE2 hb1 h2
  rw [hm] at HE1 hb0 h1
  rw [hm'] at HE2 hb1 h2
  have HEc : Hid (eachM ((R ++ R').map ARow.a) = E ++ E') := Lib.hid (by rw [eachM_concat, hE, hE'])
  have Hm := Lib.hid hm
  have Hm' := Lib.hid hm'
  obtain ⟨N, hN⟩ : ∃ N, (R ++ R').length = N := ⟨_, rfl⟩
  have hNl : N = n + n' := by rw [← hN, List.length_append, Hlen.out, Hlen'.out]
  have HN := Lib.hid hN
  have HNl := Lib.hid hNl
  clear hE hE' hm hm' hN hNl
  go_wp2_with fail
  refine HCc.out.mono ?_
  rintro e w4 ⟨A4, c4, he4, hr4, hb4⟩
  rw [HN.out] at he4
  subst he4
  have HB4 := Lib.hid (HB3a.out.trans (hb4.mono HB3a.out.size))
  have hav : AvsAt w4 (R ++ R') A4 := ⟨hr4, fun r hr => by
    rcases List.mem_append.1 hr with hr | hr
    · exact (HA.out.below HB4.out).evs r hr
    · exact (HA'.out.below HB4.out).evs r hr⟩
  have HE3 : Hid (Calls Try.prog 34 #[.slice A4 N c4] w4 fun e w' => ∃ A2 c2, e = .returned (.slice A2 (m + m') c2) ∧ SlRow w' w'.heap.size 2 A2 ((E ++ E').map Pr.vals) ∧ Below w4.heap.size w4 w') := Lib.hid ((each_any (R ++ R') N HN.out A4 c4 w4 (by have := HNl.out; omega) hav (by rw [HEc.out, List.length_append, Hm.out, Hm'.out]; omega)).mono fun e w' h => by
    obtain ⟨sv, e1, h1⟩ := h
    obtain ⟨A2, c2, e2, h2⟩ := pr_own h1.head
    rw [HEc.out] at e2 h2
    refine ⟨A2, c2, ?_, h2, h1.below⟩
    rw [e1, e2, List.length_append, Hm.out, Hm'.out])
  clear hr4 hb4 hav HCc HB3a
  go_wp2_with (first
    | ((with_reducible refine HE3.out.mono ?_)
       rintro e w5 ⟨A5, c5, rfl, hr5, hb5⟩
       have HR5 := Lib.hid hr5
       have HB5 := Lib.hid (HB4.out.trans (hb5.mono HB4.out.size))
       clear hb5 hr5 HE3)
    | ((with_reducible refine (HE1.out _ HB5.out).mono ?_)
       rintro e w6 ⟨A6, c6, rfl, hr6, hb6⟩
       have HR6 := Lib.hid hr6
       have HR56 := Lib.hid (mv_sl_ext HR5.out hb6)
       have HB6 := Lib.hid (HB5.out.trans (hb6.mono HB5.out.size))
       clear hb6 hr6 HE1)
    | ((with_reducible refine (HE2.out _ HB6.out).mono ?_)
       rintro e w7 ⟨A7, c7, rfl, hr7, hb7⟩
       have HR7 := Lib.hid hr7
       have HR57 := Lib.hid (mv_sl_ext HR56.out hb7)
       have HR67 := Lib.hid (mv_sl_ext HR6.out hb7)
       have HB7 := Lib.hid (HB6.out.trans (hb7.mono HB6.out.size))
       clear hb7 hr7 HE2))
  have hb8 : Below w7.heap.size w7 (w7.alloc (.cells #[.slice A6 m c6, .slice A7 m' c7] 56)) := (Below.refl _ _).alloc (Nat.le_refl _) _
  have hx0 := (Box.new w7 [.slice A6 m c6, .slice A7 m' c7] 56).cell 0
  have hx1 := (Box.new w7 [.slice A6 m c6, .slice A7 m' c7] 56).cell 1
  have HC := Lib.hid (concatP_any E E' A6 A7 c6 c7 w7.heap.size (w7.alloc (.cells #[.slice A6 m c6, .slice A7 m' c7] 56)) (by have := Hm.out; omega) (by have := Hm'.out; omega) (by simp)
    (by rw [Hm.out]; exact hx0) (by rw [Hm'.out]; exact hx1) (mv_sl_ext HR67.out hb8) (mv_sl_ext HR7.out hb8))
  clear hx0 hx1
  refine HC.out.mono ?_
  rintro e w9 ⟨A9, c9, he9, hr9, hb9⟩
  have hmm : (E ++ E').length = m + m' := by rw [List.length_append, Hm.out, Hm'.out]
  rw [hmm] at he9
  subst he9
  have hb79 := hb8.trans (hb9.mono hb8.size)
  have HQ := Lib.hid (prEq_any (E ++ E') (m + m') hmm A5 A9 c5 c9 w9 (by omega) (mv_sl_ext HR57.out hb79) hr9)
  have HB9 := Lib.hid (HB7.out.trans (hb79.mono HB7.out.size))
  clear hb79 hr9 hb9 hb8 HC hmm
  have hMb : m + m' ≤ 3000 := by omega
  generalize m + m' = MM at *
  go_wp2_with (first
    | ((with_reducible refine HQ.out.mono ?_)
       rintro e w10 ⟨rfl, hb10⟩
       have HB10 := Lib.hid (HB9.out.trans (hb10.mono HB9.out.size))
       clear hb10))
  go_ret
  exact ⟨rfl, HB10.out⟩
end Go.Proofs.Ytjekdodboihfhaa

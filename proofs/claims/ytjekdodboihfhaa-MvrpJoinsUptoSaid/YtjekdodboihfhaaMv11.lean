/- The laws MvrpBack, MvrpStill. -/
import Derived.Test.YtjekdodboihfhaaMv10
import Derived.Test.YtjekdodboihfhaaOpAv
set_option linter.all false
namespace Go.Proofs.Ytjekdodboihfhaa
open Go.RowKit
def ex0 : Av := ⟨false, 10, [1, 2, 3, 4]⟩
theorem ex0_ok : ex0.okB = true := by decide
theorem ex0_bytes : mvBytes [ex0] = [0, 1, 2, 0, 4, 0, 10, 51, 144, 0, 0, 0, 0] := by decide
set_option maxRecDepth 100000 in
theorem mvWrite_more (n : Nat) (h40 : 40 < n) (A : Option Addr) (cap : Nat) (w : World) : ∃ t v, Calls Try.prog 27 #[.slice A n cap] w fun e w' => e = .returned (.tuple #[.string ⟨#[]⟩, .iface t v]) ∧ Below w.heap.size w w' := by
  refine ⟨68, .int .i64 4, ?_⟩
  have h40i : (40 : Int) < (n : Int) := by omega
  refine (callsIn_wide (n := 3)).1 ?_
  refine callsIn_of_wp_marks Try.func27 rfl trivial ?_ rfl
  refine wpIn_wide.2 ?_
  simp only [Try.ntmps27, List.size_toArray, List.length_cons, List.length_nil, Nat.reduceAdd, Nat.reduceSub, Array.replicate_succ, Array.replicate_zero, List.push_toArray, List.append_toArray, List.nil_append, List.cons_append]
  go_wp2_with fail
  refine left_leaves [] _ trivial (fun w' hb' => ⟨.tuple #[.string ⟨#[]⟩, .iface 68 (.int .i64 4)], by simp [results, Try.results27, go_sem], rfl, hb'⟩)
theorem mvWrite_ok (R : List ARow) (n : Nat) (hn : R.length = n) (A : Option Addr) (cap : Nat) (w : World) (h40 : n ≤ 40) (h : AvsAt w R A) (hok : ∀ a ∈ R.map ARow.a, a.okB = true) :
    Calls Try.prog 27 #[.slice A n cap] w fun e w' => e = .returned (.tuple #[.string ⟨(mvBytes (R.map ARow.a)).toArray⟩, .nilIface]) ∧ Below w.heap.size w w' := by
  have hok' : ∀ r ∈ R, r.a.okB = true := fun r hr => hok r.a (List.mem_map.2 ⟨r, hr, rfl⟩)
  refine (mvWrite_any R A cap n w hn h40 h.row h.evs (fun r hr => ?_)).mono ?_
  · obtain ⟨_, _, _, h4, _⟩ := Av.ok_iff.1 (hok' r hr)
    omega
  · rintro e w' ⟨h1, _, h3⟩
    exact ⟨h1 hok', h3⟩
set_option maxRecDepth 100000 in
set_option maxHeartbeats 4000000 in
theorem wanted_any (w : World) : Calls Try.prog 25 #[] w fun e w' => e = .returned (.bool true) ∧ Below w.heap.size w w' := by
  have H0 := Lib.hid (((St.init w).alloc [.int .i64 1, .int .i64 2, .int .i64 3, .int .i64 4] 3).alloc [.bool false, .int .i64 10, .slice (some ⟨w.heap.size, 0, none⟩) 4 4] 50)
  go_enter Try.func25, Try.ntmps25
  go_upto_region 2 with (fail)
  obtain ⟨w2, hw2⟩ : ∃ W, (w.alloc (.cells #[.int .i64 1, .int .i64 2, .int .i64 3, .int .i64 4] 3)).alloc (.cells #[.bool false, .int .i64 10, .slice (some ⟨w.heap.size, 0, none⟩) 4 4] 50) = W := ⟨_, rfl⟩
  have hz : (w.alloc (.cells #[.int .i64 1, .int .i64 2, .int .i64 3, .int .i64 4] 3)).heap.size = w.heap.size + 1 := by simp
  rw [hz] at H0
  have H2 : Hid (St w.heap.size w w2 (bk (w.heap.size + 1) 50 [.bool false, .int .i64 10, .slice (some ⟨w.heap.size, 0, none⟩) 4 4] :: bk w.heap.size 3 [.int .i64 1, .int .i64 2, .int .i64 3, .int .i64 4] :: [])) := Lib.hid (by rw [← hw2]; exact H0.out)
  have hlt2 : w.heap.size + 1 < w2.heap.size := by rw [← hw2]; simp
  have HA : Hid (AvsAt w2 [⟨ex0, .slice (some ⟨w.heap.size, 0, none⟩) 4 4⟩] (some ⟨w.heap.size + 1, 0, none⟩)) := Lib.hid ⟨fun _ => ⟨w.heap.size + 1, 0, rfl, hlt2, fun k hk => by
      obtain rfl : k = 0 := by simpa using hk
      exact (Blk.box (H2.out.at 0 rfl)).range⟩, fun r hr => by
      rw [List.mem_singleton.1 hr]
      refine ⟨_, _, rfl, Nat.le_refl _, fun _ => ⟨w.heap.size, 0, rfl, by omega, fun k hk => ?_⟩⟩
      have hB := Blk.box (H2.out.at 1 rfl)
      intro j v hj
      have hk4 : k < 4 := hk
      match k, hk4 with
      | 0, _ => (match j, hj with
        | 0, hj => (cases hj; exact hB.cell 0))
      | 1, _ => (match j, hj with
        | 0, hj => (cases hj; exact hB.cell 1))
      | 2, _ => (match j, hj with
        | 0, hj => (cases hj; exact hB.cell 2))
      | 3, _ => (match j, hj with
        | 0, hj => (cases hj; exact hB.cell 3))⟩
  rw [hw2]
  clear hw2 H0 hz
  have hex : ∀ a ∈ [ex0], a.okB = true := fun a ha => by rw [List.mem_singleton.1 ha]; exact ex0_ok
  have HW : Hid (Calls Try.prog 27 #[.slice (some ⟨w.heap.size + 1, 0, none⟩) 1 1] w2 fun e w' => e = .returned (.tuple #[.string ⟨#[0, 1, 2, 0, 4, 0, 10, 51, 144, 0, 0, 0, 0]⟩, .nilIface]) ∧ Below w2.heap.size w2 w') := Lib.hid (by
    have h := mvWrite_ok [⟨ex0, .slice (some ⟨w.heap.size, 0, none⟩) 4 4⟩] 1 rfl (some ⟨w.heap.size + 1, 0, none⟩) 1 w2 (by decide) HA.out hex
    rw [show [(⟨ex0, .slice (some ⟨w.heap.size, 0, none⟩) 4 4⟩ : ARow)].map ARow.a = [ex0] from rfl, ex0_bytes] at h
    exact h)
  have HR : Hid (∀ W, Calls Try.prog 31 #[.string ⟨#[0, 1, 2, 0, 4, 0, 10, 51, 144, 0, 0, 0, 0]⟩] W fun e w' => ∃ (L : List ARow) (A : Option Addr) (cap : Nat), L.map ARow.a = [ex0] ∧ e = .returned (.tuple #[.slice A 1 cap, .nilIface]) ∧ AvsAt w' L A ∧ Below W.heap.size W w') := Lib.hid (fun W => by
    have h := mvRead_ok [ex0] hex (by decide) W
    rw [ex0_bytes] at h
    exact h)
  have HSAME : Hid (∀ (W : World) (L : List ARow) (A4 : Option Addr) (c4 : Nat), Below w2.heap.size w2 W → L.map ARow.a = [ex0] → AvsAt W L A4 → Calls Try.prog 32 #[.slice (some ⟨w.heap.size + 1, 0, none⟩) 1 1, .slice A4 1 c4] W fun e w' => e = .returned (.bool true) ∧ Below W.heap.size W w') := Lib.hid (fun W L A4 c4 hb hL hA4 =>
    same_any [⟨ex0, .slice (some ⟨w.heap.size, 0, none⟩) 4 4⟩] L 1 rfl hL.symm _ A4 1 c4 W (by decide) (fun r hr => by rw [List.mem_singleton.1 hr]; exact (show (4 : Nat) ≤ 9223372036854775807 by decide)) (HA.out.below hb) hA4)
  go_wp2_with (first
    | ((with_reducible refine HW.out.mono ?_)
       rintro e w3 ⟨rfl, hb3⟩
       have HB3 := Lib.hid hb3
       clear hb3)
    | ((with_reducible refine (HR.out _).mono ?_)
       rintro e w4 ⟨L, A4, c4, hL, rfl, hA4, hb4⟩
       have HB4 := Lib.hid (HB3.out.trans (hb4.mono HB3.out.size))
       have HL := Lib.hid hL
       have HA4 := Lib.hid hA4
       clear hb4 hL hA4)
    | ((with_reducible refine (HSAME.out _ L A4 c4 HB4.out HL.out HA4.out).mono ?_)
       rintro e w5 ⟨rfl, hb5⟩
       have H5 := Lib.hid ((H2.out.ext HB4.out).ext hb5)
       clear hb5))
  go_ret
  exact ⟨rfl, H5.out.below⟩
set_option maxRecDepth 100000 in
set_option maxHeartbeats 4000000 in
theorem notRight_any {R : List ARow} {A : Option Addr} {w : World} (h : AvsAt w R A) (hbig : ∀ r ∈ R, r.a.evs.length ≤ 9223372036854775807) {r : ARow} (hr : r ∈ R) (W : World) (hb : Below w.heap.size w W) :
    Calls Try.prog 29 #[.agg r.vals.toArray] W fun e w' => e = .returned (.bool (!r.a.okB)) ∧ Below W.heap.size W w' := by
  have HB := Lib.hid (Box.new W r.vals 50)
  have hb0 : Below W.heap.size W (W.alloc (.cells r.vals.toArray 50)) := (Below.refl _ _).alloc (Nat.le_refl _) _
  have HR := Lib.hid (right_at h hbig hr _ (hb.trans (hb0.mono hb.size)))
  clear h hbig hr hb
  go_enter Try.func29, Try.ntmps29
  go_upto_region 1 with (fail)
  generalize World.alloc _ _ = W0 at *
  go_wp2_with (first
    | (with_reducible refine wpList_load_rng (ty := 50) r.vals (by with_unfolding_all rfl) HB.out.range Try.underlying50 (by with_unfolding_all rfl) (by with_unfolding_all exact info50) ?_)
    | ((with_reducible refine HR.out.mono ?_)
       rintro e w1 ⟨rfl, hb1⟩
       skip))
  go_ret
  exact ⟨rfl, hb0.trans (hb1.mono hb0.size)⟩
set_option maxRecDepth 100000 in
set_option maxHeartbeats 4000000 in
theorem law_MvrpBack (v0 : Value) (R : List ARow) (w : World) (hv0 : IsAvs w v0 R) :
    Calls Try.prog 8 #[v0] w fun e w' => e = .returned (.bool true) ∧ Below w.heap.size w w' := by
  obtain ⟨A, cap, rfl, hcap, hn, hA, hbig⟩ := hv0
  obtain ⟨n, hlen⟩ : ∃ n, R.length = n := ⟨_, rfl⟩
  rw [hlen] at hn hcap ⊢
  have HA := Lib.hid hA
  have Hlen := Lib.hid hlen
  have Hbig := Lib.hid hbig
  have HD := Lib.hid (wanted_any w)
  have HL : Hid (∀ W, Below w.heap.size w W → Calls Try.prog 26 #[.slice A n cap] W fun e w' => (∃ b, e = .returned (.bool b)) ∧ Below W.heap.size W w') := Lib.hid (fun W hb => lots_any R n hlen A cap W hn (hA.below hb))
  have HF : Hid (∀ W, Below w.heap.size w W → Calls Try.prog 28 #[.slice A n cap, .func (.func 29) #[] #[]] W fun e w' => e = .returned (.bool (R.any fun r => !r.a.okB)) ∧ Below W.heap.size W w') := Lib.hid (fun W hb =>
    anyf_av (fun r => !r.a.okB) R n hlen A cap 29 #[] W hn (hA.below hb).row (fun args X => by kernel_rfl) (fun r hr X hX => notRight_any hA hbig hr X (hb.trans (hX.mono hb.size))))
  clear hA hlen hbig hcap
  go_enter Try.func8, Try.ntmps8
  go_upto_region 3 with (first
    | ((with_reducible refine HD.out.mono ?_)
       rintro e w1 ⟨rfl, hb1⟩
       have HB1 := Lib.hid hb1
       clear hb1))
  go_wp2_with fail
  refine (HL.out _ HB1.out).mono ?_
  rintro e w2 ⟨⟨b, rfl⟩, hb2⟩
  have HB2 := Lib.hid (HB1.out.trans (hb2.mono HB1.out.size))
  clear hb2 HL
  cases b
  case true =>
    go_wp2_with fail
    go_ret
    exact ⟨rfl, HB2.out⟩
  case false =>
  have HA2 := Lib.hid (HA.out.below HB2.out)
  by_cases h40 : 40 < n
  · have HW : Hid (∃ t v, Calls Try.prog 27 #[.slice A n cap] w2 fun e w' => e = .returned (.tuple #[.string ⟨#[]⟩, .iface t v]) ∧ Below w2.heap.size w2 w') := Lib.hid (mvWrite_more n h40 A cap w2)
    obtain ⟨t, v, hW⟩ := HW.out
    have HW := Lib.hid hW
    have h40i : (40 : Int) < (n : Int) := by omega
    clear hW h40
    go_wp2_with (first
      | ((with_reducible refine HW.out.mono ?_)
         rintro e w3 ⟨rfl, hb3⟩
         have HB3 := Lib.hid (HB2.out.trans (hb3.mono HB2.out.size))
         clear hb3))
    go_ret
    exact ⟨rfl, HB3.out⟩
  have h40i : ¬ (40 : Int) < (n : Int) := by omega
  by_cases hok : ∀ r ∈ R, r.a.okB = true
  · have hoka : ∀ a ∈ R.map ARow.a, a.okB = true := fun a ha => by
      obtain ⟨r, hr, rfl⟩ := List.mem_map.1 ha
      exact hok r hr
    have HW : Hid (Calls Try.prog 27 #[.slice A n cap] w2 fun e w' => e = .returned (.tuple #[.string ⟨(mvBytes (R.map ARow.a)).toArray⟩, .nilIface]) ∧ Below w2.heap.size w2 w') := Lib.hid (mvWrite_ok R n Hlen.out A cap w2 (by omega) HA2.out hoka)
    have HR : Hid (∀ W, Calls Try.prog 31 #[.string ⟨(mvBytes (R.map ARow.a)).toArray⟩] W fun e w' => ∃ (L : List ARow) (A : Option Addr) (cap : Nat), L.map ARow.a = R.map ARow.a ∧ e = .returned (.tuple #[.slice A n cap, .nilIface]) ∧ AvsAt w' L A ∧ Below W.heap.size W w') := Lib.hid (fun W => by
      have h := mvRead_ok (R.map ARow.a) hoka (by rw [List.length_map]; have := Hlen.out; omega) W
      rw [List.length_map, Hlen.out] at h
      exact h)
    have HSAME : Hid (∀ (W : World) (L : List ARow) (A4 : Option Addr) (c4 : Nat), Below w.heap.size w W → L.map ARow.a = R.map ARow.a → AvsAt W L A4 → Calls Try.prog 32 #[.slice A n cap, .slice A4 n c4] W fun e w' => e = .returned (.bool true) ∧ Below W.heap.size W w') := Lib.hid (fun W L A4 c4 hb hL hA4 =>
      same_any R L n Hlen.out hL.symm A A4 cap c4 W hn Hbig.out (HA.out.below hb) hA4)
    clear hok hoka h40
    generalize mvBytes (R.map ARow.a) = S at *
    go_wp2_with (first
      | ((with_reducible refine HW.out.mono ?_)
         rintro e w3 ⟨rfl, hb3⟩
         have HB3 := Lib.hid (HB2.out.trans (hb3.mono HB2.out.size))
         clear hb3)
      | ((with_reducible refine (HR.out _).mono ?_)
         rintro e w4 ⟨L, A4, c4, hL, rfl, hA4, hb4⟩
         have HB4 := Lib.hid (HB3.out.trans (hb4.mono HB3.out.size))
         have HL := Lib.hid hL
         have HA4 := Lib.hid hA4
         clear hb4 hL hA4)
      | ((with_reducible refine (HSAME.out _ L A4 c4 HB4.out HL.out HA4.out).mono ?_)
         rintro e w5 ⟨rfl, hb5⟩
         have HB5 := Lib.hid (HB4.out.trans (hb5.mono HB4.out.size))
         clear hb5))
    go_ret
    exact ⟨rfl, HB5.out⟩
  · have hbad : ∃ r ∈ R, r.a.okB = false := by
      refine Classical.byContradiction fun hno => hok fun r hr => ?_
      cases e : r.a.okB
      · exact (hno ⟨r, hr, e⟩).elim
      · rfl
    have HW : Hid (Calls Try.prog 27 #[.slice A n cap] w2 fun e w' => (∃ g, e = .returned (.tuple #[.string ⟨#[]⟩, .iface 78 (.pointer (some ⟨g, 0, none⟩))])) ∧ Below w2.heap.size w2 w') := Lib.hid ((mvWrite_any R A cap n w2 Hlen.out (by omega) HA2.out.row HA2.out.evs Hbig.out).mono fun e w' h => ⟨h.2.1 hbad, h.2.2⟩)
    have hany : (R.any fun r => !r.a.okB) = true := by
      obtain ⟨r, hr, e⟩ := hbad
      exact List.any_eq_true.2 ⟨r, hr, by rw [e]; rfl⟩
    rw [hany] at HF
    clear hok hbad hany h40
    go_wp2_with (first
      | ((with_reducible refine HW.out.mono ?_)
         rintro e w3 ⟨⟨g, rfl⟩, hb3⟩
         have HB3 := Lib.hid (HB2.out.trans (hb3.mono HB2.out.size))
         clear hb3)
      | ((with_reducible refine (HF.out _ HB3.out).mono ?_)
         rintro e w4 ⟨rfl, hb4⟩
         have HB4 := Lib.hid (HB3.out.trans (hb4.mono HB3.out.size))
         clear hb4))
    go_ret
    exact ⟨rfl, HB4.out⟩
set_option maxRecDepth 100000 in
set_option maxHeartbeats 4000000 in
theorem law_MvrpStill (s : List UInt8) (_ : s.length ≤ 9223372036854775807) (w : World) :
    Calls Try.prog 9 #[.string ⟨s.toArray⟩] w fun e w' => e = .returned (.bool true) ∧ Below w.heap.size w w' := by
  have HD := Lib.hid (wanted_any w)
  go_enter Try.func9, Try.ntmps9
  by_cases hl : 2000 < s.length
  · have hli : (2000 : Int) < (s.length : Int) := by omega
    go_wp2_with (first
      | ((with_reducible refine HD.out.mono ?_)
         rintro e w1 ⟨rfl, hb1⟩
         have HB1 := Lib.hid hb1
         clear hb1))
    go_ret
    exact ⟨rfl, HB1.out⟩
  have hli : ¬ (2000 : Int) < (s.length : Int) := by omega
  obtain ⟨o, R, hrd⟩ : ∃ o R, readMvM s = (o, R) := ⟨_, _, rfl⟩
  cases o with
  | none =>
    have HR : Hid (∀ W, Calls Try.prog 31 #[.string ⟨s.toArray⟩] W fun e w' => (∃ g, e = .returned (.tuple #[.slice none 0 0, .iface 78 (.pointer (some ⟨g, 0, none⟩))])) ∧ Below W.heap.size W w') := Lib.hid (fun W => (mvRead_any s (by omega) W).mono fun e w' h => by
      obtain ⟨g, e1, _⟩ := h.1.2 R hrd
      exact ⟨⟨g, e1⟩, h.2⟩)
    clear hrd
    go_wp2_with (first
      | ((with_reducible refine HD.out.mono ?_)
         rintro e w1 ⟨rfl, hb1⟩
         have HB1 := Lib.hid hb1
         clear hb1)
      | ((with_reducible refine (HR.out _).mono ?_)
         rintro e w2 ⟨⟨g, rfl⟩, hb2⟩
         have HB2 := Lib.hid (HB1.out.trans (hb2.mono HB1.out.size))
         clear hb2))
    go_ret
    exact ⟨rfl, HB2.out⟩
  | some l =>
    obtain ⟨hl40, hok, hlen⟩ := readMv_back (by omega) hrd
    have HR : Hid (∀ W, Calls Try.prog 31 #[.string ⟨s.toArray⟩] W fun e w' => ∃ (L : List ARow) (A : Option Addr) (cap : Nat), L.map ARow.a = l ∧ e = .returned (.tuple #[.slice A l.length cap, .nilIface]) ∧ AvsAt w' L A ∧ Below W.heap.size W w') := Lib.hid (fun W => (mvRead_any s (by omega) W).mono fun e w' h => by
      obtain ⟨L, A, cap, k1, k2, _, k4, k5⟩ := h.1.1 l R hrd
      exact ⟨L, A, cap, k1, by rw [k2, ← k1, List.length_map], ⟨k4, k5⟩, h.2⟩)
    have HW : Hid (∀ (W : World) (L : List ARow) (A : Option Addr) (cap : Nat), L.map ARow.a = l → AvsAt W L A → Calls Try.prog 27 #[.slice A l.length cap] W fun e w' => e = .returned (.tuple #[.string ⟨(mvBytes l).toArray⟩, .nilIface]) ∧ Below W.heap.size W w') := Lib.hid (fun W L A cap h1 h2 => by
      have h := mvWrite_ok L l.length (by rw [← h1, List.length_map]) A cap W hl40 h2 (by rw [h1]; exact hok)
      rw [h1] at h
      exact h)
    have HR2 := Lib.hid (fun W => mvRead_ok l hok hl40 W)
    have HSAME : Hid (∀ (W : World) (L L' : List ARow) (A A' : Option Addr) (c c' : Nat), L.map ARow.a = l → L'.map ARow.a = l → AvsAt W L A → AvsAt W L' A' → Calls Try.prog 32 #[.slice A l.length c, .slice A' l.length c'] W fun e w' => e = .returned (.bool true) ∧ Below W.heap.size W w') := Lib.hid (fun W L L' A A' c c' h1 h2 k1 k2 =>
      same_any L L' l.length (by rw [← h1, List.length_map]) (h1.trans h2.symm) A A' c c' W (by omega) (fun r hr => by
        obtain ⟨_, _, _, h4, _⟩ := Av.ok_iff.1 (hok r.a (by rw [← h1]; exact List.mem_map.2 ⟨r, hr, rfl⟩))
        omega) k1 k2)
    have hlei : ((mvBytes l).length : Int) ≤ (s.length : Int) := by omega
    clear hrd hok hlen hl40
    generalize mvBytes l = S at *
    generalize l.length = n at *
    go_wp2_with (first
      | ((with_reducible refine HD.out.mono ?_)
         rintro e w1 ⟨rfl, hb1⟩
         have HB1 := Lib.hid hb1
         clear hb1)
      | ((with_reducible refine (HR.out _).mono ?_)
         rintro e w2 ⟨L, A2, c2, hL, rfl, hA2, hb2⟩
         have HB2 := Lib.hid (HB1.out.trans (hb2.mono HB1.out.size))
         have HL := Lib.hid hL
         have HA2 := Lib.hid hA2
         clear hb2 hL hA2 HR)
      | ((with_reducible refine (HW.out _ L A2 c2 HL.out HA2.out).mono ?_)
         rintro e w3 ⟨rfl, hb3⟩
         have HB3 := Lib.hid (HB2.out.trans (hb3.mono HB2.out.size))
         have HA3 := Lib.hid (HA2.out.below hb3)
         clear hb3)
      | ((with_reducible refine (HR2.out _).mono ?_)
         rintro e w4 ⟨L4, A4, c4, hL4, rfl, hA4, hb4⟩
         have HB4 := Lib.hid (HB3.out.trans (hb4.mono HB3.out.size))
         have HL4 := Lib.hid hL4
         have HA4 := Lib.hid hA4
         have HA34 := Lib.hid (HA3.out.below hb4)
         clear hb4 hL4 hA4)
      | ((with_reducible refine (HSAME.out _ L L4 A2 A4 c2 c4 HL.out HL4.out HA34.out HA4.out).mono ?_)
         rintro e w5 ⟨rfl, hb5⟩
         have HB5 := Lib.hid (HB4.out.trans (hb5.mono HB4.out.size))
         clear hb5))
    go_ret
    exact ⟨rfl, HB5.out⟩
end Go.Proofs.Ytjekdodboihfhaa

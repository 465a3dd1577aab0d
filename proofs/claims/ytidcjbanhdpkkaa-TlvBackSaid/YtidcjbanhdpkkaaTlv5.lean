/- TlvBack. -/
import Derived.Test.YtidcjbanhdpkkaaTlv4
namespace Go.Proofs.Ytidcjbanhdpkkaa
open Go.RowKit Go.ChangeShapes Go.WideShapes Go.Deep
theorem tlvs_len : ∀ (m : List Tv), m.length ≤ (tvBody m).length := by
  intro m
  induction m with
  | nil => simp
  | cons t m ih =>
    simp only [tvBody, List.flatMap_cons, List.length_append, Tv.bytes_len, List.length_cons] at ih ⊢
    omega
theorem tv_prefix (a b : List UInt8) : Lib.hasPrefix (a ++ b) a = true := by
  unfold Lib.hasPrefix
  rw [List.isPrefixOf_iff_prefix]; exact List.prefix_append a b
theorem at_cells {w : World} {B : Nat} {A : Option Addr} {l : List Nat} (h : SlRow w B 1 A (atC l)) (h0 : 0 < l.length) : ∃ g o, A = some ⟨g, o, none⟩ ∧ g < B ∧ ∀ (k a : Nat), l[k]? = some a → w.cell? ⟨g, o + k, none⟩ = some (.int .i64 (a : Int)) := by
  obtain ⟨g, o, hA, hg, hc⟩ := h (by unfold atC; rw [List.length_map]; exact h0)
  refine ⟨g, o, hA, hg, fun k a hk => ?_⟩
  obtain ⟨hlt, rfl⟩ := List.getElem?_eq_some_iff.1 hk
  have h1 := hc k (by unfold atC; rw [List.length_map]; exact hlt) 0 (.int .i64 (l[k] : Int)) (by simp [atC])
  rw [Nat.mul_one, Nat.add_zero] at h1
  exact h1
theorem tv_cells {w : World} {B : Nat} {A : Option Addr} {L : List Tv} (h : SlRow w B 2 A (L.map Tv.vals)) (h0 : 0 < L.length) : ∃ g o, A = some ⟨g, o, none⟩ ∧ g < B ∧ ∀ k (hk : k < L.length), w.cell? ⟨g, o + k * 2 + 1, none⟩ = some (.string ⟨(L[k]).text.toArray⟩) := by
  obtain ⟨g, o, hA, hg, hc⟩ := h (by rw [List.length_map]; exact h0)
  refine ⟨g, o, hA, hg, fun k hk => ?_⟩
  exact hc k (by rw [List.length_map]; exact hk) 1 _ (by simp [Tv.vals])
set_option maxRecDepth 100000 in
set_option maxHeartbeats 4000000 in
theorem law_TlvBack (v : Value) (L : List Tv) (s : List UInt8) (_ : s.length ≤ 9223372036854775807) (w : World) (hv : IsTlvs w v L) :
    Calls Try.prog 4 #[v, .string ⟨s.toArray⟩] w fun e w' => e = .returned (.bool true) ∧ Below w.heap.size w w' := by
  obtain ⟨A, cap, rfl, hn, hr⟩ := hv
  have Hr := Lib.hid hr
  obtain ⟨n, hlen⟩ : ∃ n, L.length = n := ⟨_, rfl⟩
  have hF := fun (W : World) (hb : Below w.heap.size w W) => fits_any L A cap W hn (sl_ext hr hb)
  have hW := fun (W : World) (hb : Below w.heap.size w W) (h : L.length ≤ 100000) => tlvWrite_b L A cap W (sl_ext hr hb) h
  have hE := fun (W : World) (hb : Below w.heap.size w W) (A4 : Option Addr) (c4 : Nat) (h4 : SlRow W W.heap.size 2 A4 (L.map Tv.vals)) => eqtlv_any L A A4 cap c4 W hn (sl_ext hr hb) h4
  have hRk := fun (W : World) (hk : ∀ t ∈ L, t.okB = true) (hl : (tvBytes L).length ≤ 1000000) => tlvRead_ok L W hk hl
  rw [hlen] at hF hW hE hRk hn ⊢
  have HF := Lib.hid hF
  have HW := Lib.hid hW
  have HE := Lib.hid hE
  have HRk := Lib.hid hRk
  have Hlen := Lib.hid hlen
  clear hr hF hW hE hRk hlen
  go_enter Try.func4, Try.ntmps4
  go_wp2_with fail
  refine (listed_any _).mono ?_
  rintro e w1 ⟨rfl, hb1⟩
  have Hb1 := Lib.hid hb1
  clear hb1
  go_wp2_with fail
  refine (HF.out w1 Hb1.out).mono ?_
  rintro e w2 ⟨b, rfl, hf, hb2⟩
  have Hb2 := Lib.hid (Hb1.out.trans (hb2.mono Hb1.out.size))
  clear hb2 Hb1
  cases b
  · go_wp2_with fail
    go_ret
    exact ⟨rfl, Hb2.out⟩
  have h40 := hf rfl
  clear hf
  by_cases h3 : 3000 < s.length
  · have h3I : (3000 : Int) < (s.length : Int) := by omega
    go_wp2_with fail
    go_ret
    exact ⟨rfl, Hb2.out⟩
  have h3I : ¬ (3000 : Int) < (s.length : Int) := by omega
  have hs3 : s.length ≤ 3000 := by omega
  clear h3
  go_wp2_with fail
  refine (HW.out w2 Hb2.out (by omega)).mono ?_
  rintro e w3 ⟨S, ev, rfl, hdis, hb3⟩
  have Hb3 := Lib.hid (Hb2.out.trans (hb3.mono Hb2.out.size))
  clear hb3 Hb2
  go_upto_region 6 with (fail)
  go_cut [34] (fun c wx => ∃ b, c = .bool b ∧ wx = w3 ∧ Hid (b = true → (∀ t ∈ L, t.okB = true) ∧ S = tvBytes L))
  case first =>
    rcases hdis with ⟨hk, hS, rfl⟩ | ⟨_, g, rfl⟩
    · have HX : Hid ((∀ t ∈ L, t.okB = true) ∧ S = tvBytes L) := Lib.hid ⟨hk, hS⟩
      clear hk hS
      go_wp2_with fail
      go_meet
      exact ⟨true, rfl, rfl, Lib.hid (fun _ => HX.out)⟩
    · go_wp2_with fail
      go_meet
      exact ⟨false, rfl, rfl, Lib.hid (fun h => by cases h)⟩
  case rest =>
  obtain ⟨b, rfl, rfl, hb⟩ := hcut
  clear hdis
  go_upto_if 34 with (fail)
  go_cut [] (fun wx => Hid (Below w.heap.size w wx))
  case first =>
    cases b
    · go_wp2_with fail
      go_meet
      exact Hb3
    · obtain ⟨hk, rfl⟩ := hb.out rfl
      have Hk := Lib.hid hk
      have hB := tvBody_ok_le L L.length (Nat.le_refl _) (fun j hj _ => hk _ (List.getElem_mem hj))
      rw [List.take_length] at hB
      have hT : (tvBytes L).length = (tvBody L).length + 2 := by unfold tvBytes; rw [List.length_append]; rfl
      have HT := Lib.hid hT
      have hLn := Hlen.out
      have HRd := Lib.hid (HRk.out wc hk (by omega))
      clear hLn
      have hat : ∀ k (hk : k < L.length), (tvAts 0 L)[k]? = some (tvBody (L.take k)).length := fun k hk => by rw [tvAts_get L 0 k hk, Nat.zero_add]
      have hsum : ∀ k (hk : k < L.length), (tvBody (L.take (k + 1))).length = (tvBody (L.take k)).length + 2 + (L[k]).text.length := fun k hk => by rw [tvBody_take hk, List.length_append, Tv.bytes_len]; omega
      have hle : ∀ k, k ≤ L.length → (tvBody (L.take k)).length ≤ 513 * k := fun k hkl => tvBody_ok_le L k hkl (fun j hj _ => hk _ (List.getElem_mem hj))
      have Hat := Lib.hid hat
      have Hsum := Lib.hid hsum
      have Hle := Lib.hid hle
      have hend : ((tvBody L).length : Int) = ((tvBytes L).length : Int) - 2 := by omega
      have Hend : Hid ((tvBody (L.take L.length)).length = (tvBody L).length) := Lib.hid (by rw [List.take_length])
      have hne : (((tvBody L).length : Int) != ((tvBytes L).length : Int) - 2) = false := by rw [bne_eq_false_iff_eq]; exact hend
      have hlt2 : 2 ≤ (tvBytes L).length := by omega
      have hTle : (tvBytes L).length ≤ 30000 := by have := Hlen.out; omega
      clear hk hat hsum hle hT hend hb
      generalize tvBytes L = T at *
      go_wp2_with fail
      refine HRd.out.mono ?_
      rintro e w4 ⟨A4, c4, A5, c5, rfl, hr4, hr5, hb4⟩
      have Hb4 := Lib.hid (Hb3.out.trans (hb4.mono Hb3.out.size))
      have Hr4 := Lib.hid hr4
      have Hr5 := Lib.hid hr5
      clear hr4 hr5 hb4 HRd
      go_wp2_with fail
      refine (HE.out w4 Hb4.out A4 c4 Hr4.out).mono ?_
      rintro e w5 ⟨rfl, hb5⟩
      have Hb5 := Lib.hid (Hb4.out.trans (hb5.mono Hb4.out.size))
      have Hr6 := Lib.hid (sl_ext Hr5.out hb5)
      have Hr7 := Lib.hid (sl_ext Hr.out Hb5.out)
      clear hb5 Hr5 Hr4 Hb4 Hb3
      rw [Hlen.out] at Hend
      generalize hz : (tvBody L).length = z at *
      have Hz := Lib.hid hz
      clear hz
      go_wp2_with fail
      go_loopw [11, 12, 66] (fun _ _ i wr => ∃ k : Nat, k ≤ n ∧ i = .int .i64 k ∧ Hid (Below w5.heap.size w5 wr)) (fun _ _ i _ => n - (intOf i).toNat)
      case atStart => exact ⟨0, by omega, rfl, Lib.hid (Below.refl _ _)⟩
      case round =>
        obtain ⟨k, hk, rfl, Hb⟩ := hrel
        by_cases hlt : k < n
        · have hkx : k < L.length := by rw [Hlen.out]; exact hlt
          obtain ⟨g5, o5, rfl, hg5, hc5⟩ := at_cells (l := tvAts 0 L) Hr6.out (by rw [tvAts_len]; omega)
          obtain ⟨g, o, rfl, hg, hc⟩ := tv_cells Hr7.out (by omega)
          have ca := laterc (hc5 k _ (Hat.out k hkx)) Hb.out hg5
          have ct := laterc (hc k hkx) Hb.out hg
          have hsum := Hsum.out k hkx
          have ha := Hle.out k (by omega)
          have lg5 := Nat.lt_of_lt_of_le hg5 Hb.out.size
          have lg := Nat.lt_of_lt_of_le hg Hb.out.size
          by_cases hlast : k + 1 < n
          · have hlastI : ((k : Int) + 1) < (n : Int) := by omega
            have hnb := Hle.out (k + 1) (by rw [Hlen.out]; omega)
            have cb := laterc (hc5 (k + 1) _ (Hat.out (k + 1) (by rw [Hlen.out]; exact hlast))) Hb.out hg5
            clear hc hc5
            generalize (tvBody (L.take (k + 1))).length = nx at *
            generalize (tvBody (L.take k)).length = a at *
            generalize L[k].text = tx at *
            have hbe : ((a : Int) + 2 + (tx.length : Int) != (nx : Int)) = false := by rw [bne_eq_false_iff_eq]; omega
            have hs1 : tx.length ≤ 30000 := by omega
            go_upto_region 16 with (fail)
            refine wp_region_ext (by kernel_rfl) (by kernel_rfl) ?_
            repeat (go_big_quiet_step (fail))
            refine wpQuiet_nil ?_
            rintro w8 ⟨⟨_, hb8⟩, rfl⟩
            try simp only [] at *
            have Hb8 := Lib.hid (Hb.out.trans (hb8.mono Hb.out.size))
            go_wp2_with fail
            go_roundw
            case rel => exact ⟨k + 1, by omega, by go_num, Hb8⟩
            case measure => simp [intOf]; omega
          · have hlastI : ¬ ((k : Int) + 1) < (n : Int) := by omega
            have hkn : k + 1 = n := by omega
            have hnx : (tvBody (L.take (k + 1))).length = z := by rw [hkn]; exact Hend.out
            clear hc hc5
            have hnb := Hle.out (k + 1) (by rw [Hlen.out]; omega)
            rw [hnx] at hsum hnb
            generalize (tvBody (L.take k)).length = a at *
            generalize L[k].text = tx at *
            have hbe : ((a : Int) + 2 + (tx.length : Int) != (z : Int)) = false := by rw [bne_eq_false_iff_eq]; omega
            have hs1 : tx.length ≤ 30000 := by omega
            clear hkn hnx
            go_upto_region 16 with (fail)
            refine wp_region_ext (by kernel_rfl) (by kernel_rfl) ?_
            repeat (go_big_quiet_step (fail))
            refine wpQuiet_nil ?_
            rintro w8 ⟨⟨_, hb8⟩, rfl⟩
            try simp only [] at *
            have Hb8 := Lib.hid (Hb.out.trans (hb8.mono Hb.out.size))
            go_wp2_with fail
            go_roundw
            case rel => exact ⟨k + 1, by omega, by go_num, Hb8⟩
            case measure => simp [intOf]; omega
        · go_wp2_with fail
          go_meet
          exact Lib.hid (Hb5.out.trans (Hb.out.mono Hb5.out.size))
  case rest =>
  have Hbc := Lib.hid hcut.out
  clear hcut Hb3 hb h40 hn Hr HF HW HE HRk Hlen
  generalize wc = w6 at *
  go_wp2_with fail
  refine (tlvRead_any s (by omega) w6).mono ?_
  rintro e w7 ⟨hg, hb7⟩
  have Hb7 := Lib.hid (Hbc.out.trans (hb7.mono Hbc.out.size))
  clear hb7 Hbc
  obtain ⟨o, R, hR⟩ : ∃ o R, readTlvM s = (o, R) := ⟨_, _, rfl⟩
  cases o with
  | none =>
    obtain ⟨g, rfl⟩ := hg.2 R hR
    clear hg hR
    go_wp2_with fail
    go_ret
    exact ⟨rfl, Hb7.out⟩
  | some x =>
    obtain ⟨m, ats, z⟩ := x
    obtain ⟨A6, c6, A7, c7, rfl, hr6, _⟩ := hg.1 m ats z R hR
    clear hg
    obtain ⟨m', pad, e1, e2, e3, hL, hk⟩ := tlvM_back (s.length + 1) (newM s 0) R [] [] m ats z ⟨Nat.zero_le _, by show 0 + s.length ≤ _; omega⟩ hR
    rw [List.nil_append] at e1
    subst e1
    have hsp : s = tvBytes m ++ pad := by
      have := hL.left
      simpa [tvBytes, newM] using this
    have hlT : (tvBytes m).length = (tvBody m).length + 2 := by unfold tvBytes; rw [List.length_append]; rfl
    have hlen := congrArg List.length hsp
    rw [List.length_append] at hlen
    have hml := tlvs_len m
    have hz : z = (tvBody m).length := by rw [e3]; simp [RS.place, newM]
    have HW := Lib.hid (tlvWrite_ok m A6 c6 w7 hr6 (by omega) hk)
    have HP : Hid (∀ W, Calls Try.prog 18 #[.string ⟨s.toArray⟩, .string ⟨(tvBytes m).toArray⟩] W fun e w' => e = .returned (.bool true) ∧ w' = W) := Lib.hid (fun W => by
      have := Try.strings_HasPrefix ⟨s.toArray⟩ ⟨(tvBytes m).toArray⟩ W
      rw [show Lib.hasPrefix s (tvBytes m) = true by rw [hsp]; exact tv_prefix _ _] at this
      exact this)
    have hbe : (((tvBytes m).length : Int) == (z : Int) + 2) = true := by rw [beq_iff_eq]; omega
    have hzl : z ≤ 3000 := by omega
    clear hR hL hk e2 e3 hsp hr6 hlT hlen hml hz
    generalize tvBytes m = T at *
    go_wp2_with (first
      | ((with_reducible refine HW.out.mono ?_)
         rintro e w8 ⟨rfl, hb8⟩
         have Hb8 := Lib.hid (Hb7.out.trans (hb8.mono Hb7.out.size))
         clear hb8)
      | ((with_reducible refine (HP.out _).mono ?_)
         rintro e w9 ⟨rfl, rfl⟩
         skip))
    go_ret
    exact ⟨rfl, Hb8.out⟩
end Go.Proofs.Ytidcjbanhdpkkaa

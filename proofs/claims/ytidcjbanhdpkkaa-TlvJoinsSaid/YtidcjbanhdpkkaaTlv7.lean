/- TlvJoins. -/
import Derived.Test.YtidcjbanhdpkkaaTlv6
namespace Go.Proofs.Ytidcjbanhdpkkaa
open Go.RowKit Go.ChangeShapes Go.WideShapes Go.Deep
set_option maxRecDepth 100000 in
set_option maxHeartbeats 4000000 in
theorem law_TlvJoins (v0 : Value) (L : List Tv) (v1 : Value) (M : List Tv) (w : World) (hv0 : IsTlvs w v0 L) (hv1 : IsTlvs w v1 M) :
    Calls Try.prog 5 #[v0, v1] w fun e w' => e = .returned (.bool true) ∧ Below w.heap.size w w' := by
  obtain ⟨A, cap, rfl, hn, hr⟩ := hv0
  obtain ⟨A', cap', rfl, hn', hr'⟩ := hv1
  have HFL := Lib.hid (fun (W : World) (hb : Below w.heap.size w W) => fits_any L A cap W hn (sl_ext hr hb))
  have HFM := Lib.hid (fun (W : World) (hb : Below w.heap.size w W) => fits_any M A' cap' W hn' (sl_ext hr' hb))
  have HLY := Lib.hid (fun (h40 : L.length ≤ 40) (hk : ∀ t ∈ L, t.okB = true) (W : World) (hb : Below w.heap.size w W) => tlvWrite_ok L A cap W (sl_ext hr hb) (by omega) hk)
  have HLN := Lib.hid (fun (h40 : L.length ≤ 40) (hk : ∃ t ∈ L, t.okB = false) (W : World) (hb : Below w.heap.size w W) => tlvWrite_no L A cap W (sl_ext hr hb) (by omega) hk)
  have HMY := Lib.hid (fun (h40 : M.length ≤ 40) (hk : ∀ t ∈ M, t.okB = true) (W : World) (hb : Below w.heap.size w W) => tlvWrite_ok M A' cap' W (sl_ext hr' hb) (by omega) hk)
  have HMN := Lib.hid (fun (h40 : M.length ≤ 40) (hk : ∃ t ∈ M, t.okB = false) (W : World) (hb : Below w.heap.size w W) => tlvWrite_no M A' cap' W (sl_ext hr' hb) (by omega) hk)
  have HC := Lib.hid (fun (h40 : L.length ≤ 40) (h40' : M.length ≤ 40) (W : World) (G : Nat) (hb : Below w.heap.size w W) (hG : G < W.heap.size) (h0 : W.cell? ⟨G, 0, none⟩ = some (.slice A L.length cap)) (h1 : W.cell? ⟨G, 1, none⟩ = some (.slice A' M.length cap')) => concat_any L M A A' cap cap' G W (by omega) (by omega) hG h0 h1 (sl_ext hr hb) (sl_ext hr' hb))
  obtain ⟨n, hlen⟩ : ∃ n, L.length = n := ⟨_, rfl⟩
  obtain ⟨n', hlen'⟩ : ∃ n', M.length = n' := ⟨_, rfl⟩
  have HlL := Lib.hid hlen
  have HlM := Lib.hid hlen'
  rw [hlen] at HFL HLY HLN HC hn ⊢
  rw [hlen'] at HFM HMY HMN HC hn' ⊢
  clear hlen hlen' hr hr'
  go_enter Try.func5, Try.ntmps5
  go_wp2_with fail
  refine (listed_any _).mono ?_
  rintro e w1 ⟨rfl, hb1⟩
  have Hb1 := Lib.hid hb1
  clear hb1
  go_wp2_with fail
  refine (HFL.out w1 Hb1.out).mono ?_
  rintro e w2 ⟨b, rfl, hf, hb2⟩
  have Hb2 := Lib.hid (Hb1.out.trans (hb2.mono Hb1.out.size))
  clear hb2 Hb1
  cases b
  · go_wp2_with fail
    go_ret
    exact ⟨rfl, Hb2.out⟩
  have h40 := hf rfl
  clear hf
  go_wp2_with fail
  refine (HFM.out w2 Hb2.out).mono ?_
  rintro e w3 ⟨b, rfl, hf, hb3⟩
  have Hb3 := Lib.hid (Hb2.out.trans (hb3.mono Hb2.out.size))
  clear hb3 Hb2
  cases b
  · go_wp2_with fail
    go_ret
    exact ⟨rfl, Hb3.out⟩
  have h40' := hf rfl
  clear hf
  have HC := Lib.hid (HC.out h40 h40')
  have hLM : (L ++ M).length ≤ 100000 := by rw [List.length_append, HlL.out, HlM.out]; omega
  obtain ⟨N, hN⟩ : ∃ N, (L ++ M).length = N := ⟨_, rfl⟩
  rw [hN] at HC
  by_cases hkL : ∀ t ∈ L, t.okB = true
  · have HLy := Lib.hid (HLY.out h40 hkL)
    by_cases hkM : ∀ t ∈ M, t.okB = true
    · have HMy := Lib.hid (HMY.out h40' hkM)
      have HZ := Lib.hid (fun (W : World) (A2 : Option Addr) (c2 : Nat) (h : SlRow W W.heap.size 2 A2 ((L ++ M).map Tv.vals)) => tlvWrite_ok (L ++ M) A2 c2 W h hLM (fun t ht => (List.mem_append.1 ht).elim (hkL t) (hkM t)))
      rw [hN] at HZ
      have hL2 : (tvBytes L).length = (tvBody L).length + 2 := by unfold tvBytes; rw [List.length_append]; rfl
      have htk : (tvBytes L).take (tvBody L).length = tvBody L := by unfold tvBytes; exact List.take_left' rfl
      have hjoin : tvBytes (L ++ M) = tvBody L ++ tvBytes M := by unfold tvBytes; rw [tvBody_append, List.append_assoc]
      have hbL := tvBody_ok_le L L.length (Nat.le_refl _) (fun j hj _ => hkL _ (List.getElem_mem hj))
      have hbM := tvBody_ok_le M M.length (Nat.le_refl _) (fun j hj _ => hkM _ (List.getElem_mem hj))
      rw [List.take_length] at hbL hbM
      have hM2 : (tvBytes M).length ≤ 30000 := by
        have := HlM.out
        unfold tvBytes; rw [List.length_append]; simp only [List.length_cons, List.length_nil]; omega
      have hL3 : (tvBody L).length ≤ 30000 := by have := HlL.out; omega
      rw [hjoin] at HZ
      clear hkL hkM hbL hbM hjoin HFL HFM HLY HLN HMY HMN
      generalize tvBytes M = TM at *
      generalize tvBytes L = TL at *
      generalize tvBody L = BL at *
      go_wp2_with fail
      refine (HLy.out _ Hb3.out).mono ?_
      rintro e w4 ⟨rfl, hb4⟩
      have Hb4 := Lib.hid (Hb3.out.trans (hb4.mono Hb3.out.size))
      clear hb4
      go_wp2_with fail
      refine (HMy.out _ Hb4.out).mono ?_
      rintro e w5 ⟨rfl, hb5⟩
      have Hb5 := Lib.hid (Hb4.out.trans (hb5.mono Hb4.out.size))
      clear hb5
      go_wp2_with fail
      have Hb6 := Lib.hid (Hb5.out.alloc Hb5.out.size (.cells #[.slice A n cap, .slice A' n' cap'] 30))
      have hG0 : (w5.alloc (.cells #[.slice A n cap, .slice A' n' cap'] 30)).cell? ⟨w5.heap.size, 0, none⟩ = some (.slice A n cap) := by rw [World.cell?_alloc_mark]; rfl
      have hG1 : (w5.alloc (.cells #[.slice A n cap, .slice A' n' cap'] 30)).cell? ⟨w5.heap.size, 1, none⟩ = some (.slice A' n' cap') := by rw [World.cell?_alloc_mark]; rfl
      have hGl : w5.heap.size < (w5.alloc (.cells #[.slice A n cap, .slice A' n' cap'] 30)).heap.size := by simp
      have HCc := Lib.hid (HC.out _ _ Hb6.out hGl hG0 hG1)
      clear hG0 hG1 hGl
      refine HCc.out.mono ?_
      rintro e w7 ⟨A2, c2, rfl, hr7, hb7⟩
      have Hb7 := Lib.hid (Hb6.out.trans (hb7.mono Hb6.out.size))
      have Hr7 := Lib.hid hr7
      clear hb7 hr7
      go_wp2_with fail
      refine (HZ.out w7 A2 c2 Hr7.out).mono ?_
      rintro e w8 ⟨rfl, hb8⟩
      have Hb8 := Lib.hid (Hb7.out.trans (hb8.mono Hb7.out.size))
      clear hb8
      go_wp2_with fail
      go_ret
      exact ⟨rfl, Hb8.out⟩
    · have hkM' : ∃ t ∈ M, t.okB = false := by simpa using hkM
      have HMn := Lib.hid (HMN.out h40' hkM')
      have HZ := Lib.hid (fun (W : World) (A2 : Option Addr) (c2 : Nat) (h : SlRow W W.heap.size 2 A2 ((L ++ M).map Tv.vals)) => tlvWrite_no (L ++ M) A2 c2 W h hLM (by obtain ⟨t, ht, hf⟩ := hkM'; exact ⟨t, List.mem_append_right _ ht, hf⟩))
      rw [hN] at HZ
      clear hkL hkM hkM' HFL HFM HLY HLN HMY HMN
      generalize tvBytes L = TL at *
      go_wp2_with fail
      refine (HLy.out _ Hb3.out).mono ?_
      rintro e w4 ⟨rfl, hb4⟩
      have Hb4 := Lib.hid (Hb3.out.trans (hb4.mono Hb3.out.size))
      clear hb4
      go_wp2_with fail
      refine (HMn.out _ Hb4.out).mono ?_
      rintro e w5 ⟨g5, rfl, hb5⟩
      have Hb5 := Lib.hid (Hb4.out.trans (hb5.mono Hb4.out.size))
      clear hb5
      go_wp2_with fail
      have Hb6 := Lib.hid (Hb5.out.alloc Hb5.out.size (.cells #[.slice A n cap, .slice A' n' cap'] 30))
      have hG0 : (w5.alloc (.cells #[.slice A n cap, .slice A' n' cap'] 30)).cell? ⟨w5.heap.size, 0, none⟩ = some (.slice A n cap) := by rw [World.cell?_alloc_mark]; rfl
      have hG1 : (w5.alloc (.cells #[.slice A n cap, .slice A' n' cap'] 30)).cell? ⟨w5.heap.size, 1, none⟩ = some (.slice A' n' cap') := by rw [World.cell?_alloc_mark]; rfl
      have hGl : w5.heap.size < (w5.alloc (.cells #[.slice A n cap, .slice A' n' cap'] 30)).heap.size := by simp
      have HCc := Lib.hid (HC.out _ _ Hb6.out hGl hG0 hG1)
      clear hG0 hG1 hGl
      refine HCc.out.mono ?_
      rintro e w7 ⟨A2, c2, rfl, hr7, hb7⟩
      have Hb7 := Lib.hid (Hb6.out.trans (hb7.mono Hb6.out.size))
      have Hr7 := Lib.hid hr7
      clear hb7 hr7
      go_wp2_with fail
      refine (HZ.out w7 A2 c2 Hr7.out).mono ?_
      rintro e w8 ⟨g8, rfl, hb8⟩
      have Hb8 := Lib.hid (Hb7.out.trans (hb8.mono Hb7.out.size))
      clear hb8
      go_wp2_with fail
      go_ret
      exact ⟨rfl, Hb8.out⟩
  · have hkL' : ∃ t ∈ L, t.okB = false := by simpa using hkL
    have HLn := Lib.hid (HLN.out h40 hkL')
    have HZ := Lib.hid (fun (W : World) (A2 : Option Addr) (c2 : Nat) (h : SlRow W W.heap.size 2 A2 ((L ++ M).map Tv.vals)) => tlvWrite_no (L ++ M) A2 c2 W h hLM (by obtain ⟨t, ht, hf⟩ := hkL'; exact ⟨t, List.mem_append_left _ ht, hf⟩))
    rw [hN] at HZ
    clear hkL hkL'
    by_cases hkM : ∀ t ∈ M, t.okB = true
    · have HMy := Lib.hid (HMY.out h40' hkM)
      clear hkM HFL HFM HLY HLN HMY HMN
      generalize tvBytes M = TM at *
      go_wp2_with fail
      refine (HLn.out _ Hb3.out).mono ?_
      rintro e w4 ⟨g4, rfl, hb4⟩
      have Hb4 := Lib.hid (Hb3.out.trans (hb4.mono Hb3.out.size))
      clear hb4
      go_wp2_with fail
      refine (HMy.out _ Hb4.out).mono ?_
      rintro e w5 ⟨rfl, hb5⟩
      have Hb5 := Lib.hid (Hb4.out.trans (hb5.mono Hb4.out.size))
      clear hb5
      go_wp2_with fail
      have Hb6 := Lib.hid (Hb5.out.alloc Hb5.out.size (.cells #[.slice A n cap, .slice A' n' cap'] 30))
      have hG0 : (w5.alloc (.cells #[.slice A n cap, .slice A' n' cap'] 30)).cell? ⟨w5.heap.size, 0, none⟩ = some (.slice A n cap) := by rw [World.cell?_alloc_mark]; rfl
      have hG1 : (w5.alloc (.cells #[.slice A n cap, .slice A' n' cap'] 30)).cell? ⟨w5.heap.size, 1, none⟩ = some (.slice A' n' cap') := by rw [World.cell?_alloc_mark]; rfl
      have hGl : w5.heap.size < (w5.alloc (.cells #[.slice A n cap, .slice A' n' cap'] 30)).heap.size := by simp
      have HCc := Lib.hid (HC.out _ _ Hb6.out hGl hG0 hG1)
      clear hG0 hG1 hGl
      refine HCc.out.mono ?_
      rintro e w7 ⟨A2, c2, rfl, hr7, hb7⟩
      have Hb7 := Lib.hid (Hb6.out.trans (hb7.mono Hb6.out.size))
      have Hr7 := Lib.hid hr7
      clear hb7 hr7
      go_wp2_with fail
      refine (HZ.out w7 A2 c2 Hr7.out).mono ?_
      rintro e w8 ⟨g8, rfl, hb8⟩
      have Hb8 := Lib.hid (Hb7.out.trans (hb8.mono Hb7.out.size))
      clear hb8
      go_wp2_with fail
      go_ret
      exact ⟨rfl, Hb8.out⟩
    · have HMn := Lib.hid (HMN.out h40' (by simpa using hkM))
      clear hkM HFL HFM HLY HLN HMY HMN
      go_wp2_with fail
      refine (HLn.out _ Hb3.out).mono ?_
      rintro e w4 ⟨g4, rfl, hb4⟩
      have Hb4 := Lib.hid (Hb3.out.trans (hb4.mono Hb3.out.size))
      clear hb4
      go_wp2_with fail
      refine (HMn.out _ Hb4.out).mono ?_
      rintro e w5 ⟨g5, rfl, hb5⟩
      have Hb5 := Lib.hid (Hb4.out.trans (hb5.mono Hb4.out.size))
      clear hb5
      go_wp2_with fail
      have Hb6 := Lib.hid (Hb5.out.alloc Hb5.out.size (.cells #[.slice A n cap, .slice A' n' cap'] 30))
      have hG0 : (w5.alloc (.cells #[.slice A n cap, .slice A' n' cap'] 30)).cell? ⟨w5.heap.size, 0, none⟩ = some (.slice A n cap) := by rw [World.cell?_alloc_mark]; rfl
      have hG1 : (w5.alloc (.cells #[.slice A n cap, .slice A' n' cap'] 30)).cell? ⟨w5.heap.size, 1, none⟩ = some (.slice A' n' cap') := by rw [World.cell?_alloc_mark]; rfl
      have hGl : w5.heap.size < (w5.alloc (.cells #[.slice A n cap, .slice A' n' cap'] 30)).heap.size := by simp
      have HCc := Lib.hid (HC.out _ _ Hb6.out hGl hG0 hG1)
      clear hG0 hG1 hGl
      refine HCc.out.mono ?_
      rintro e w7 ⟨A2, c2, rfl, hr7, hb7⟩
      have Hb7 := Lib.hid (Hb6.out.trans (hb7.mono Hb6.out.size))
      have Hr7 := Lib.hid hr7
      clear hb7 hr7
      go_wp2_with fail
      refine (HZ.out w7 A2 c2 Hr7.out).mono ?_
      rintro e w8 ⟨g8, rfl, hb8⟩
      have Hb8 := Lib.hid (Hb7.out.trans (hb8.mono Hb7.out.size))
      clear hb8
      go_wp2_with fail
      go_ret
      exact ⟨rfl, Hb8.out⟩
end Go.Proofs.Ytidcjbanhdpkkaa

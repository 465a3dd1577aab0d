/- WireBack, WireSubs, WireStops. -/
import Derived.Test.YtdeaednccdoklaaDoorWired
import Derived.Test.YtdeaednccdoklaaDoorPick
import Derived.Test.YtdeaednccdoklaaDoorWireAid
import Derived.Test.YtdeaednccdoklaaDoorReader4
import Derived.Test.YtdeaednccdoklaaDoorTell2
import Derived.Deep.RegionWith
namespace Go.Proofs.YtdeaednccdoklaaDoor
open Go.RowKit
set_option maxHeartbeats 1000000 in
theorem law_WireBack (x n : Int) (hx : (Lit.int .u64 x).wf = true) (hn : (Lit.int .i64 n).wf = true) (w : World) (hE : ErrVar w) :
    Calls Tryd.prog 3 #[.int .u64 x, .int .i64 n] w fun e w' => e = .returned (.bool true) ∧ Below w.heap.size w w' := by
  have hx := wf_u64 hx
  clear hn
  obtain ⟨x, rfl⟩ := Int.eq_ofNat_of_zero_le hx.1
  have hx : x < 18446744073709551616 := by omega
  have hk := pickN_lt n 7 (by decide)
  generalize hp : pickN n 7 = k at hk
  have Hp := Lib.hid hp
  have HE := Lib.hid hE
  clear hp hE
  by_cases h1 : x < 256 ^ (1 + k)
  · have hx7 : x < 72057594037927936 := Nat.lt_of_lt_of_le h1 (show 256 ^ (1 + k) ≤ 256 ^ 7 from Nat.pow_le_pow_right (by decide) (by omega))
    have hb := beNum_beBytes (1 + k) x h1
    have hl := beBytes_len x (1 + k)
    have c1 := put_ok x (1 + k) hx (by omega) (by omega) h1
    generalize beBytes x (1 + k) = L at hb hl c1
    have Hb := Lib.hid hb
    have HL := Lib.hid hl
    have C1 := Lib.hid c1
    have H1 := Lib.hid h1
    clear hb hl c1 h1
    go_enter Tryd.func3, Tryd.ntmps3
    go_wp2_with fail
    refine (wired_any _).mono ?_
    rintro e w1 ⟨rfl, hb1⟩
    go_wp2_with fail
    refine (pick_any n 7 _ (by decide) (by decide)).mono ?_
    rintro e w' ⟨rfl, rfl⟩
    rw [Hp.out]
    go_wp2_with fail
    rw [show (1 + (k : Int)) = ((1 + k : Nat) : Int) by omega]
    refine (C1.out _).mono ?_
    rintro e w2 ⟨rfl, hb2⟩
    go_wp2_with fail
    refine (new_any L 0 _).mono ?_
    rintro e w3 ⟨rfl, hr3, hb3, hlt3⟩
    have Hr3 := Lib.hid hr3
    have hlen : (((L.length : Nat) : Int) == 1 + (k : Int)) = true := by rw [HL.out]; simp
    clear hr3
    go_wp2_with fail
    rw [show (1 + (k : Int)) = ((1 + k : Nat) : Int) by omega]
    refine (num_ok Hr3.out (1 + k) (by omega) (by omega) (by rw [HL.out]; omega) (by rw [HL.out]; omega)).mono ?_
    rintro e w4 ⟨rfl, hr4, hu4⟩
    rw [show beNum ((L.drop 0).take (1 + k)) = x by rw [List.drop_zero, List.take_of_length_le (by rw [HL.out]; exact Nat.le_refl _)]; exact Hb.out]
    have Hr4 := Lib.hid hr4
    clear hr4
    go_wp2_with fail
    refine (left_any Hr4.out (by rw [HL.out]; omega) (by rw [HL.out]; omega)).mono ?_
    rintro e w5 ⟨rfl, hb5⟩
    have Hr5 := Lib.hid (Hr4.out.keep hb5)
    rw [show (L.length - (0 + (1 + k))) = 0 by rw [HL.out]; omega]
    go_wp2_with fail
    refine (err_any Hr5.out).mono ?_
    rintro e w6 ⟨rfl, rfl⟩
    go_wp2_with fail
    go_ret
    have b12 := hb1.trans (hb2.mono hb1.size)
    have b13 := b12.trans (hb3.mono b12.size)
    have b14 := b13.trans (hu4.below b12.size b13.size)
    exact ⟨rfl, b14.trans (hb5.mono b14.size)⟩
  · have hne : x / 2 ^ (8 * (1 + k)) ≠ 0 := by
      intro h0
      apply h1
      rw [show (256 : Nat) ^ (1 + k) = 2 ^ (8 * (1 + k)) by rw [Nat.pow_mul]]
      exact (Nat.div_eq_zero_iff_lt (Nat.two_pow_pos _)).1 h0
    have hne' : (((x : Int) / 2 ^ (8 * (1 + k))) != 0) = true := by
      rw [bne_iff_ne]
      intro h
      apply hne
      have : ((x / 2 ^ (8 * (1 + k)) : Nat) : Int) = 0 := by simpa using h
      omega
    have c1 := put_full x (1 + k) (by omega) (by omega) hne
    have C1 := Lib.hid c1
    clear c1 hne
    go_enter Tryd.func3, Tryd.ntmps3
    go_wp2_with fail
    refine (wired_any _).mono ?_
    rintro e w1 ⟨rfl, hb1⟩
    go_wp2_with fail
    refine (pick_any n 7 _ (by decide) (by decide)).mono ?_
    rintro e w' ⟨rfl, rfl⟩
    rw [Hp.out]
    go_wp2_with fail
    rw [show (1 + (k : Int)) = ((1 + k : Nat) : Int) by omega]
    refine (C1.out _).mono ?_
    rintro e w2 ⟨rfl, hb2⟩
    have b12 := hb1.trans (hb2.mono hb1.size)
    go_wp2_with fail
    refine (tell_errno 12 _ (HE.out.keep b12)).mono ?_
    rintro e w3 ⟨rfl, hb3⟩
    go_wp2_with fail
    go_ret
    exact ⟨rfl, b12.trans (hb3.mono b12.size)⟩
set_option maxHeartbeats 1000000 in
theorem law_WireStops (s : List UInt8) (n m : Int) (hs : s.length ≤ 9223372036854775807) (hn : (Lit.int .i64 n).wf = true) (hm : (Lit.int .i64 m).wf = true) (w : World) (hE : ErrVar w) :
    Calls Tryd.prog 5 #[.string ⟨s.toArray⟩, .int .i64 n, .int .i64 m] w fun e w' => e = .returned (.bool true) ∧ Below w.heap.size w w' := by
  clear hn hm
  have HE := Lib.hid hE
  clear hE
  by_cases h2 : s.length ≤ 200
  · have p1 := pickN_lt n (s.length + 1) (by omega)
    generalize hp : pickN n (s.length + 1) = k at p1
    have p2 := pickN_lt m 8 (by omega)
    generalize hq : pickN m 8 = j at p2
    have Hp := Lib.hid hp
    have Hq := Lib.hid hq
    clear hp hq
    go_enter Tryd.func5, Tryd.ntmps5
    go_wp2_with fail
    refine (wired_any _).mono ?_
    rintro e w1 ⟨rfl, hb1⟩
    go_wp2_with fail
    refine (new_any s 0 _).mono ?_
    rintro e w2 ⟨rfl, hr2, hb2, hlt2⟩
    have Hr2 := Lib.hid hr2
    clear hr2
    go_wp2_with fail
    rw [show ((s.length : Int) + 1) = ((s.length + 1 : Nat) : Int) by omega]
    refine (pick_any n (s.length + 1) _ (by omega) (by omega)).mono ?_
    rintro e w' ⟨rfl, rfl⟩
    rw [Hp.out]
    go_wp2_with fail
    refine (pick_any m 8 _ (by omega) (by omega)).mono ?_
    rintro e w' ⟨rfl, rfl⟩
    rw [Hq.out]
    go_wp2_with fail
    refine (bytes_ok Hr2.out k (by omega) (by omega)).mono ?_
    rintro e w3 ⟨rfl, hr3, hu3⟩
    rw [Nat.zero_add] at hr3
    have Hr3 := Lib.hid hr3
    clear hr3
    go_wp2_with fail
    refine (bytes_fail Hr3.out _ (by omega) (by omega) (by omega)).mono ?_
    rintro e w4 ⟨rfl, hu4, he4⟩
    rw [if_neg (by omega)] at he4
    obtain ⟨v, hr4, gv, rfl, hgv, hc4, hc4'⟩ := he4
    have Hr4 := Lib.hid hr4
    have Hc4 := Lib.hid hc4
    have b12 := hb1.trans (hb2.mono hb1.size)
    have b13 := b12.trans (hu3.below hb1.size b12.size)
    have b14 := b13.trans (hu4.below hb1.size b13.size)
    clear hr4 hc4 hc4'
    go_wp2_with fail
    refine (err_any Hr4.out).mono ?_
    rintro e w6 ⟨rfl, rfl⟩
    go_wp2_with fail
    refine (tell_at gv 7 _ (HE.out.keep b14) Hc4.out).mono ?_
    rintro e w5 ⟨rfl, hb5⟩
    have Hr5 := Lib.hid (Hr4.out.keep hb5)
    have Hc5 := Lib.hid ((hb5.cell (p := ⟨gv, 0, none⟩) hgv).trans Hc4.out)
    have b15 := b14.trans (hb5.mono b14.size)
    have hgv5 : gv < w5.heap.size := Nat.lt_of_lt_of_le hgv hb5.size
    go_wp2_with fail
    refine (bytes_had Hr5.out 1).mono ?_
    rintro e w6 ⟨rfl, hb6⟩
    have Hr6 := Lib.hid (Hr5.out.keep hb6)
    have Hc6 := Lib.hid ((hb6.cell (p := ⟨gv, 0, none⟩) hgv5).trans Hc5.out)
    have b16 := b15.trans (hb6.mono b15.size)
    have hgv6 : gv < w6.heap.size := Nat.lt_of_lt_of_le hgv5 hb6.size
    go_wp2_with fail
    refine (num_had Hr6.out 1).mono ?_
    rintro e w7 ⟨rfl, hb7⟩
    have Hr7 := Lib.hid (Hr6.out.keep hb7)
    have Hc7 := Lib.hid ((hb7.cell (p := ⟨gv, 0, none⟩) hgv6).trans Hc6.out)
    have b17 := b16.trans (hb7.mono b16.size)
    have hgv7 : gv < w7.heap.size := Nat.lt_of_lt_of_le hgv6 hb7.size
    go_wp2_with fail
    refine (zeros_had Hr7.out).mono ?_
    rintro e w8 ⟨rfl, hb8⟩
    have Hr8 := Lib.hid (Hr7.out.keep hb8)
    have Hc8 := Lib.hid ((hb8.cell (p := ⟨gv, 0, none⟩) hgv7).trans Hc7.out)
    have b18 := b17.trans (hb8.mono b17.size)
    have hgv8 : gv < w8.heap.size := Nat.lt_of_lt_of_le hgv7 hb8.size
    go_wp2_with fail
    refine (at_any Hr8.out (by omega)).mono ?_
    rintro e w9 ⟨rfl, hb9⟩
    have Hr9 := Lib.hid (Hr8.out.keep hb9)
    have Hc9 := Lib.hid ((hb9.cell (p := ⟨gv, 0, none⟩) hgv8).trans Hc8.out)
    have b19 := b18.trans (hb9.mono b18.size)
    rw [Nat.zero_add]
    go_wp2_with fail
    refine (err_any Hr9.out).mono ?_
    rintro e w10 ⟨rfl, rfl⟩
    go_wp2_with fail
    refine (tell_at gv 7 _ (HE.out.keep b19) Hc9.out).mono ?_
    rintro e w10 ⟨rfl, hb10⟩
    go_wp2_with fail
    go_ret
    exact ⟨rfl, b19.trans (hb10.mono b19.size)⟩
  · go_enter Tryd.func5, Tryd.ntmps5
    go_wp2_with fail
    refine (wired_any _).mono ?_
    rintro e w1 ⟨rfl, hb1⟩
    go_wp2_with fail
    go_ret
    exact ⟨rfl, hb1⟩
end Go.Proofs.YtdeaednccdoklaaDoor

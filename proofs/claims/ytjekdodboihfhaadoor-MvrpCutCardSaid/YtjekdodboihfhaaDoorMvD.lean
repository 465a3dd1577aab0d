/- The law MvrpCut. -/
import Derived.Test.YtjekdodboihfhaaDoorMv11
import Derived.Test.YtjekdodboihfhaaDoorMvC
import Derived.Test.YtjekdodboihfhaaDoorPick
import Derived.Test.YtjekdodboihfhaaDoorTell2At
set_option linter.all false
namespace Go.Proofs.YtjekdodboihfhaaDoor
open Go.RowKit
theorem mvBytes_pos (l : List Av) : 3 ≤ (mvBytes l).length := by
  unfold mvBytes
  split
  · decide
  · simp only [List.length_append, List.length_cons, List.length_nil]; omega
theorem mvRead_cut {l : List Av} (ho : ∀ a ∈ l, a.okB = true) (hl : l.length ≤ 40) (k : Nat) (hk : k < (mvBytes l).length) (W : World) :
    Calls Tryd.prog 8 #[.string ⟨((mvBytes l).take k).toArray⟩] W fun e w' => (∃ g, e = .returned (.tuple #[.slice none 0 0, .iface 51 (.pointer (some ⟨g, 0, none⟩))]) ∧ w'.cell? ⟨g, 0, none⟩ = some (.int .i64 7)) ∧ Below W.heap.size W w' := by
  have hlen := mvBytes_len ho hl
  obtain ⟨R, p, h1, h2⟩ := readMv_cut ho hl (by omega) k hk
  refine (mvRead_any _ (by rw [List.length_take]; omega) W).mono fun e w' h => ?_
  obtain ⟨g, e1, e2⟩ := h.1.2 R h1
  exact ⟨⟨g, e1, (e2 7 p h2).2⟩, h.2⟩
set_option maxRecDepth 100000 in
set_option maxHeartbeats 4000000 in
theorem law_MvrpCut (v0 : Value) (R : List ARow) (x : Int) (_ : (Lit.int .i64 x).wf = true) (w : World) (hv0 : IsAvs w v0 R) (hE : ErrVar w) :
    Calls Tryd.prog 3 #[v0, .int .i64 x] w fun e w' => e = .returned (.bool true) ∧ Below w.heap.size w w' := by
  obtain ⟨A, cap, rfl, hcap, hn, hA, hbig⟩ := hv0
  obtain ⟨n, hlen⟩ : ∃ n, R.length = n := ⟨_, rfl⟩
  rw [hlen] at hn hcap ⊢
  have HE := Lib.hid hE
  have HA := Lib.hid hA
  have Hlen := Lib.hid hlen
  have Hbig := Lib.hid hbig
  have HD := Lib.hid (wanted_any w)
  have HL : Hid (∀ W, Below w.heap.size w W → Calls Tryd.prog 6 #[.slice A n cap] W fun e w' => (∃ b, e = .returned (.bool b)) ∧ Below W.heap.size W w') := Lib.hid (fun W hb => lots_any R n hlen A cap W hn (hA.below hb))
  clear hA hlen hbig hcap hE
  go_enter Tryd.func3, Tryd.ntmps3
  go_upto_region 3 with (first
    | ((with_reducible refine HD.out.mono ?_)
       rintro e w1 ⟨rfl, hb1⟩
       have HB1 := Lib.hid hb1
       clear hb1))
  go_wp2_with fail
  refine (HL.out _ HB1.out).mono ?_
  rintro e w2 ⟨⟨b, rfl⟩, hb2⟩
  have HB2 := Lib.hid (HB1.out.trans (hb2.mono HB1.out.size))
  clear hb2 HL
  cases b
  case true =>
    go_wp2_with fail
    go_ret
    exact ⟨rfl, HB2.out⟩
  case false =>
  have HA2 := Lib.hid (HA.out.below HB2.out)
  by_cases h40 : 40 < n
  · obtain ⟨t, v, hW⟩ := mvWrite_more n h40 A cap w2
    have HW := Lib.hid hW
    clear hW h40
    go_wp2_with (first
      | ((with_reducible refine HW.out.mono ?_)
         rintro e w3 ⟨rfl, hb3⟩
         have HB3 := Lib.hid (HB2.out.trans (hb3.mono HB2.out.size))
         clear hb3))
    go_ret
    exact ⟨rfl, HB3.out⟩
  by_cases hok : ∀ r ∈ R, r.a.okB = true
  · have hoka : ∀ a ∈ R.map ARow.a, a.okB = true := fun a ha => by
      obtain ⟨r, hr, rfl⟩ := List.mem_map.1 ha
      exact hok r hr
    have hl40 : (R.map ARow.a).length ≤ 40 := by rw [List.length_map]; have := Hlen.out; omega
    have HW : Hid (Calls Tryd.prog 7 #[.slice A n cap] w2 fun e w' => e = .returned (.tuple #[.string ⟨(mvBytes (R.map ARow.a)).toArray⟩, .nilIface]) ∧ Below w2.heap.size w2 w') := Lib.hid (mvWrite_ok R n Hlen.out A cap w2 (by omega) HA2.out hoka)
    have hp3 := mvBytes_pos (R.map ARow.a)
    have hl5 := mvBytes_len hoka hl40
    obtain ⟨k, hk⟩ : ∃ k, pickN x (mvBytes (R.map ARow.a)).length = k := ⟨_, rfl⟩
    have hkl : k < (mvBytes (R.map ARow.a)).length := by rw [← hk]; exact pickN_lt _ _ (by omega)
    have HPk : Hid (∀ W, Calls Tryd.prog 9 #[.int .i64 x, .int .i64 ((mvBytes (R.map ARow.a)).length : Int)] W fun e w' => e = .returned (.int .i64 (k : Int)) ∧ W = w') := Lib.hid (fun W => by
      have := pick_any x (mvBytes (R.map ARow.a)).length W (by omega) (by omega)
      rwa [hk] at this)
    have HR := Lib.hid (mvRead_cut hoka hl40 k hkl)
    have HT := Lib.hid (fun (g : Nat) (W : World) (h : Below w.heap.size w W) (hc : W.cell? ⟨g, 0, none⟩ = some (.int .i64 7)) => tell_at g 7 W (HE.out.keep h) hc)
    have hne : mvBytes (R.map ARow.a) ≠ [] := fun h => by rw [h] at hp3; simp at hp3
    clear hok hoka h40 hl40 hk
    generalize mvBytes (R.map ARow.a) = S at *
    have hSe : (S == []) = false := by simp [hne]
    have hkI : (k : Int) ≤ (S.length : Int) := by omega
    go_wp2_with (first
      | ((with_reducible refine HW.out.mono ?_)
         rintro e w3 ⟨rfl, hb3⟩
         have HB3 := Lib.hid (HB2.out.trans (hb3.mono HB2.out.size))
         clear hb3)
      | ((with_reducible refine (HPk.out _).mono ?_)
         rintro e w4 ⟨rfl, rfl⟩
         skip)
      | ((with_reducible refine (HR.out _).mono ?_)
         rintro e w5 ⟨⟨g, rfl, hc5⟩, hb5⟩
         have HB5 := Lib.hid (HB3.out.trans (hb5.mono HB3.out.size))
         have HC5 := Lib.hid hc5
         clear hb5 hc5)
      | ((with_reducible refine (HT.out g _ HB5.out HC5.out).mono ?_)
         rintro e w6 ⟨rfl, hb6⟩
         have HB6 := Lib.hid (HB5.out.trans (hb6.mono HB5.out.size))
         clear hb6))
    go_ret
    exact ⟨rfl, HB6.out⟩
  · have hbad : ∃ r ∈ R, r.a.okB = false := by
      refine Classical.byContradiction fun hno => hok fun r hr => ?_
      cases e : r.a.okB
      · exact (hno ⟨r, hr, e⟩).elim
      · rfl
    have HW : Hid (Calls Tryd.prog 7 #[.slice A n cap] w2 fun e w' => (∃ g, e = .returned (.tuple #[.string ⟨#[]⟩, .iface 51 (.pointer (some ⟨g, 0, none⟩))])) ∧ Below w2.heap.size w2 w') := Lib.hid ((mvWrite_any R A cap n w2 Hlen.out (by omega) HA2.out.row HA2.out.evs Hbig.out).mono fun e w' h => ⟨h.2.1 hbad, h.2.2⟩)
    clear hok hbad h40
    go_wp2_with (first
      | ((with_reducible refine HW.out.mono ?_)
         rintro e w3 ⟨⟨g, rfl⟩, hb3⟩
         have HB3 := Lib.hid (HB2.out.trans (hb3.mono HB2.out.size))
         clear hb3))
    go_ret
    exact ⟨rfl, HB3.out⟩
end Go.Proofs.YtjekdodboihfhaaDoor

/- The law RegionLeast. (Printed by tools/mkrg6.py.) -/
import Derived.Test.YtjekdodboihfhaaRg5
set_option linter.all false
namespace Go.Proofs.Ytjekdodboihfhaa
open Go.RowKit
theorem own_sl {W : World} {AM : Option Addr} {cM m : Nat} {M : List Sp} (h : (ownI 37 3 (.slice AM m cM) m (spRow M)).P W) (hm : M.length = m) : SlRow W W.heap.size 3 AM (M.map Sp.vals) := by
  obtain ⟨A', cap', e, _, k⟩ := own_sps h hm
  injection e with e
  rw [e]; exact k
set_option maxRecDepth 100000 in
set_option maxHeartbeats 8000000 in
theorem law_RegionLeast (v0 : Value) (l : List Sp) (vid : Int) (_ : (Lit.int .i64 vid).wf = true) (w : World) (hv0 : IsSps w v0 l) :
    Calls Try.prog 5 #[v0, .int .i64 vid] w fun e w' => e = .returned (.bool true) ∧ Below w.heap.size w w' := by
  obtain ⟨A, cap, rfl, hcap, hr⟩ := hv0
  obtain ⟨n, hlen⟩ : ∃ n, l.length = n := ⟨_, rfl⟩
  have Hr := Lib.hid hr
  have Hlen := Lib.hid hlen
  rw [hlen] at hcap ⊢
  have H1 := Lib.hid (St.init w)
  have HA := Lib.hid (regional_any w)
  clear hr hlen
  go_enter Try.func5, Try.ntmps5
  by_cases h60 : 60 < n
  · have h6 : (60 : Int) < (n : Int) := by omega
    go_wp2_with (first
      | ((with_reducible refine HA.out.mono ?_)
         rintro e w2 ⟨rfl, hb2⟩
         have H2 := Lib.hid (H1.out.ext hb2)
         clear hb2 HA H1))
    go_ret
    exact ⟨rfl, H2.out.below⟩
  have h6 : ¬ (60 : Int) < (n : Int) := by omega
  have HRt := rightN (cap := cap) Hlen.out (by omega) Hr.out
  cases hb : rightF 0 l
  · have HL : Hid (∀ W, Below w.heap.size w W → Calls Try.prog 16 #[.slice A n cap] W fun e w' => e = .returned (.tuple #[.slice none 0 0, .iface 68 (.int .i64 1)]) ∧ Below W.heap.size W w') := Lib.hid (fun W hb' => by
      have := least_no l A cap W (by rw [Hlen.out]; omega) (sl_ext Hr.out hb') hb
      rwa [Hlen.out] at this)
    rw [hb] at HRt
    clear hb
    go_wp2_with (first
      | ((with_reducible refine HA.out.mono ?_)
         rintro e w2 ⟨rfl, hb2⟩
         have H2 := Lib.hid (H1.out.ext hb2)
         clear hb2 HA H1)
      | ((with_reducible refine (HL.out _ H2.out.below).mono ?_)
         rintro e w3 ⟨rfl, hb3⟩
         have H3 := Lib.hid (H2.out.ext hb3)
         clear hb3)
      | ((with_reducible refine (HRt.out _ H3.out.below).mono ?_)
         rintro e w4 ⟨rfl, hb4⟩
         have H4 := Lib.hid (H3.out.ext hb4)
         clear hb4))
    go_ret
    exact ⟨rfl, H4.out.below⟩
  have hM := least_right hb
  obtain ⟨M, hMe⟩ : ∃ M, leastM l = M := ⟨_, rfl⟩
  have hlM : M.length ≤ n := by rw [← hMe, ← Hlen.out]; exact least_len l
  have hMM : leastM M = M := by rw [← hMe]; exact least_least l
  have hIn : ∀ v, instM M v = instM l v := fun v => by rw [← hMe]; exact least_inst hb v
  have hTb : tableM M = tableM l := table_ext hIn
  have HL : Hid (∀ W, Below w.heap.size w W → Calls Try.prog 16 #[.slice A n cap] W (OwnSps W W M)) := Lib.hid (fun W hb' => by
    have := least_any l A cap W (by rw [Hlen.out]; omega) (sl_ext Hr.out hb') hb
    rwa [Hlen.out, hMe] at this)
  have HT : Hid (∀ W, Below w.heap.size w W → Calls Try.prog 18 #[.slice A n cap] W fun e w' => e = .returned (.tuple #[.string ⟨(tableM l).toArray⟩, .nilIface]) ∧ Below W.heap.size W w') := Lib.hid (fun W hb' => by
    have := table_any l A cap W (by rw [Hlen.out]; omega) (sl_ext Hr.out hb') hb
    rwa [Hlen.out] at this)
  have HI : Hid (∀ W, Below w.heap.size w W → Calls Try.prog 20 #[.slice A n cap, .int .i64 vid] W fun e w' => e = .returned (.int .i64 (instM l vid)) ∧ Below W.heap.size W w') := Lib.hid (fun W hb' => by
    have := inst_any l vid A cap W (by rw [Hlen.out]; omega) (sl_ext Hr.out hb')
    rwa [Hlen.out] at this)
  have htl := table_len l
  rw [hb] at HRt
  rw [hMe] at hM
  obtain ⟨m, hm⟩ : ∃ m, M.length = m := ⟨_, rfl⟩
  have HM0 : Hid (∀ (A' : Option Addr) (cap' : Nat) (W : World), SlRow W W.heap.size 3 A' (M.map Sp.vals) → Calls Try.prog 16 #[.slice A' m cap'] W (OwnSps W W M)) := Lib.hid (fun A' cap' W h => by
    have := least_any M A' cap' W (by omega) h hM
    rwa [hm, hMM] at this)
  have HM1 : Hid (∀ (A' : Option Addr) (cap' : Nat) (W : World), SlRow W W.heap.size 3 A' (M.map Sp.vals) → Calls Try.prog 18 #[.slice A' m cap'] W fun e w' => e = .returned (.tuple #[.string ⟨(tableM l).toArray⟩, .nilIface]) ∧ Below W.heap.size W w') := Lib.hid (fun A' cap' W h => by
    have := table_any M A' cap' W (by omega) h hM
    rwa [hm, hTb] at this)
  have HM2 : Hid (∀ (A' : Option Addr) (cap' : Nat) (W : World), SlRow W W.heap.size 3 A' (M.map Sp.vals) → Calls Try.prog 17 #[.slice A' m cap'] W fun e w' => e = .returned (.bool true) ∧ Below W.heap.size W w') := Lib.hid (fun A' cap' W h => by
    have := right_any M A' cap' W (by omega) h
    rwa [hm, hM] at this)
  have HM3 : Hid (∀ (A' : Option Addr) (cap' : Nat) (W : World), SlRow W W.heap.size 3 A' (M.map Sp.vals) → Calls Try.prog 20 #[.slice A' m cap', .int .i64 vid] W fun e w' => e = .returned (.int .i64 (instM l vid)) ∧ Below W.heap.size W w') := Lib.hid (fun A' cap' W h => by
    have := inst_any M vid A' cap' W (by omega) h
    rwa [hm, hIn] at this)
  have Hm := Lib.hid hm
  have hmn : (m : Int) ≤ (n : Int) := by omega
  clear hMe hMM hIn hTb hM hm hlM hb
  generalize instM l vid = x at *
  generalize tableM l = T at *
  have htli : (T.length : Int) = 8192 := by omega
  have hbq := bytes_beq T
  go_wp2_with fail
  refine HA.out.mono ?_
  rintro e w2 ⟨rfl, hb2⟩
  have H2 := Lib.hid (H1.out.ext hb2)
  clear hb2 HA H1
  go_wp2_with fail
  refine (HL.out _ H2.out.below).mono ?_
  rintro e w3 ⟨sv, rfl, h3⟩
  rw [Hm.out] at h3
  obtain ⟨AM, cM, rfl, hcM, _⟩ := own_sps h3.head Hm.out
  have H3 := Lib.hid (H2.out.app h3)
  clear h3 HL
  go_wp2_with fail
  refine (HRt.out _ H3.out.below).mono ?_
  rintro e w4 ⟨rfl, hb4⟩
  have H4 := Lib.hid (H3.out.ext hb4)
  clear hb4 HRt H3
  have K5 := Lib.hid (HM0.out AM cM w4 (own_sl H4.out.head Hm.out))
  go_wp2_with fail
  refine K5.out.mono ?_
  rintro e w5 ⟨sv, rfl, h5⟩
  rw [Hm.out] at h5
  obtain ⟨AN, cN, rfl, hcN, _⟩ := own_sps h5.head Hm.out
  have H5 := Lib.hid ((H4.out.app h5).swap)
  clear h5 HM0 H4 K5
  have K6 := Lib.hid (HT.out w5 H5.out.below)
  go_wp2_with fail
  refine K6.out.mono ?_
  rintro e w6 ⟨rfl, hb6⟩
  have H6 := Lib.hid (H5.out.ext hb6)
  clear hb6 HT H5 K6
  have K7 := Lib.hid (HM1.out AM cM w6 (own_sl H6.out.head Hm.out))
  go_wp2_with fail
  refine K7.out.mono ?_
  rintro e w7 ⟨rfl, hb7⟩
  have H7 := Lib.hid (H6.out.ext hb7)
  clear hb7 HM1 H6 K7
  have K8 := Lib.hid (HM2.out AM cM w7 (own_sl H7.out.head Hm.out))
  go_wp2_with fail
  refine K8.out.mono ?_
  rintro e w8 ⟨rfl, hb8⟩
  have H8 := Lib.hid (H7.out.ext hb8)
  clear hb8 HM2 H7 K8
  have K9 := Lib.hid (spEq_any M m Hm.out AM AN cM cN w8 (by have := h6; omega) (own_sl H8.out.head Hm.out) (own_sl H8.out.swap.head Hm.out))
  go_wp2_with fail
  refine K9.out.mono ?_
  rintro e w9 ⟨rfl, hb9⟩
  have H9 := Lib.hid (H8.out.ext hb9)
  clear hb9 H8 K9
  have K10 := Lib.hid (HI.out w9 H9.out.below)
  go_wp2_with fail
  refine K10.out.mono ?_
  rintro e w10 ⟨rfl, hb10⟩
  have H10 := Lib.hid (H9.out.ext hb10)
  clear hb10 HI H9 K10
  have K11 := Lib.hid (HM3.out AM cM w10 (own_sl H10.out.head Hm.out))
  go_wp2_with fail
  refine K11.out.mono ?_
  rintro e w11 ⟨rfl, hb11⟩
  have H11 := Lib.hid (H10.out.ext hb11)
  clear hb11 HM3 H10 K11
  go_wp2_with fail
  go_ret
  exact ⟨rfl, H11.out.below⟩
end Go.Proofs.Ytjekdodboihfhaa

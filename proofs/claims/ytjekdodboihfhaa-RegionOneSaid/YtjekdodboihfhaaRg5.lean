/- The laws RegionTables, RegionLeast. (Printed by tools/mkrg5.py.) -/
import Derived.Test.YtjekdodboihfhaaRg4
import Derived.Test.YtjekdodboihfhaaQuietTail
set_option linter.all false
namespace Go.Proofs.Ytjekdodboihfhaa
open Go.RowKit
theorem rightN {l : List Sp} {n : Nat} (hn : l.length = n) (h : n ≤ 60) {A : Option Addr} {cap : Nat} {w0 : World} (hr : SlRow w0 w0.heap.size 3 A (l.map Sp.vals)) : Hid (∀ W, Below w0.heap.size w0 W → Calls Try.prog 17 #[.slice A n cap] W fun e w' => e = .returned (.bool (rightF 0 l)) ∧ Below W.heap.size W w') := Lib.hid (fun W hb => by
  have := right_any l A cap W (by omega) (sl_ext hr hb)
  rwa [hn] at this)
theorem get_at {T : List UInt8} {i : Nat} {c : UInt8} (h : T[i]? = some c) (W : World) : (Instr.index 9 (.string ⟨T.toArray⟩) (.int .i64 (i : Int))).run Try.prog W = .ok (.int .u8 c.toNat) W := by
  have hi := (List.getElem?_eq_some_iff.1 h).1
  rw [str_at T i hi W]
  simp [List.getD, h]
theorem two_eq {T : List UInt8} {a b : UInt8} (h0 : T[0]? = some a) (h1 : T[1]? = some b) : T.take 2 = [a, b] := by
  match T, h0, h1 with
  | x :: y :: r, h0, h1 =>
    simp only [List.getElem?_cons_zero, List.getElem?_cons_succ, Option.some.injEq] at h0 h1
    rw [h0, h1]; rfl
set_option maxRecDepth 100000 in
set_option maxHeartbeats 4000000 in
theorem law_RegionTables (v0 : Value) (l : List Sp) (vid : Int) (_ : (Lit.int .i64 vid).wf = true) (w : World) (hv0 : IsSps w v0 l) :
    Calls Try.prog 6 #[v0, .int .i64 vid] w fun e w' => e = .returned (.bool true) ∧ Below w.heap.size w w' := by
  obtain ⟨A, cap, rfl, hcap, hr⟩ := hv0
  obtain ⟨n, hlen⟩ : ∃ n, l.length = n := ⟨_, rfl⟩
  have Hr := Lib.hid hr
  have Hlen := Lib.hid hlen
  rw [hlen] at hcap ⊢
  have H1 := Lib.hid (St.init w)
  have HA := Lib.hid (regional_any w)
  clear hr hlen
  go_enter Try.func6, Try.ntmps6
  by_cases h60 : 60 < n
  · have h6 : (60 : Int) < (n : Int) := by omega
    go_wp2_with (first
      | ((with_reducible refine HA.out.mono ?_)
         rintro e w2 ⟨rfl, hb2⟩
         have H2 := Lib.hid (H1.out.ext hb2)
         clear hb2 HA H1))
    go_ret
    exact ⟨rfl, H2.out.below⟩
  have h6 : ¬ (60 : Int) < (n : Int) := by omega
  have HRt := rightN (cap := cap) Hlen.out (by omega) Hr.out
  cases hb : rightF 0 l
  · rw [hb] at HRt
    clear hb
    go_wp2_with (first
      | ((with_reducible refine HA.out.mono ?_)
         rintro e w2 ⟨rfl, hb2⟩
         have H2 := Lib.hid (H1.out.ext hb2)
         clear hb2 HA H1)
      | ((with_reducible refine (HRt.out _ H2.out.below).mono ?_)
         rintro e w3 ⟨rfl, hb3⟩
         have H3 := Lib.hid (H2.out.ext hb3)
         clear hb3))
    go_ret
    exact ⟨rfl, H3.out.below⟩
  rw [hb] at HRt
  have HT : Hid (∀ W, Below w.heap.size w W → Calls Try.prog 18 #[.slice A n cap] W fun e w' => e = .returned (.tuple #[.string ⟨(tableM l).toArray⟩, .nilIface]) ∧ Below W.heap.size W w') := Lib.hid (fun W hb' => by
    have := table_any l A cap W (by rw [Hlen.out]; omega) (sl_ext Hr.out hb') hb
    rwa [Hlen.out] at this)
  obtain ⟨v, hv⟩ : ∃ v, pickN vid 4096 = v := ⟨_, rfl⟩
  have hv4 : v < 4096 := by rw [← hv]; exact pickN_lt _ _ (by decide)
  have HP : Hid (∀ W, Calls Try.prog 21 #[.int .i64 vid, .int .i64 4096] W fun e w' => e = .returned (.int .i64 (v : Int)) ∧ W = w') := Lib.hid (fun W => by
    have := pick_any vid 4096 W (by decide) (by decide)
    rw [hv] at this
    exact this)
  have HI : Hid (∀ W, Below w.heap.size w W → Calls Try.prog 20 #[.slice A n cap, .int .i64 (v : Int)] W fun e w' => e = .returned (.int .i64 (instM l (v : Int))) ∧ Below W.heap.size W w') := Lib.hid (fun W hb' => by
    have := inst_any l (v : Int) A cap W (by rw [Hlen.out]; omega) (sl_ext Hr.out hb')
    rwa [Hlen.out] at this)
  have hat := table_at hb v hv4
  have ha0 := table_at hb 0 (by decide)
  have haN := table_at hb 4095 (by decide)
  have htl := table_len l
  have hrg := inst_range hb (v : Int)
  have hi0 : instM l ((0 : Nat) : Int) = 0 := inst_low hb _ (by decide)
  have hiN : instM l ((4095 : Nat) : Int) = 0 := inst_high hb _ (by decide)
  rw [hi0] at ha0
  rw [hiN] at haN
  generalize tableM l = T at *
  generalize instM l (v : Int) = x at *
  have ht1 : T.take 2 = [0, 0] := two_eq ha0.1 ha0.2
  have ht2 : (T.take 8192).drop 8190 = [0, 0] := by
    rw [List.take_of_length_le (by omega)]
    have e : ∀ i, (T.drop 8190)[i]? = T[8190 + i]? := fun i => List.getElem?_drop
    have h2 := two_eq (T := T.drop 8190) (a := 0) (b := 0) (by rw [e]; exact haN.1) (by rw [e]; exact haN.2)
    rw [List.take_of_length_le (by rw [List.length_drop]; omega)] at h2
    exact h2
  obtain ⟨c, hc⟩ : ∃ c, UInt8.ofNat x.toNat = c := ⟨_, rfl⟩
  have hcx : (c.toNat : Int) = x := by rw [← hc, UInt8.toNat_ofNat']; omega
  have hx0 : ∀ W, (Instr.index 9 (.string ⟨T.toArray⟩) (.int .i64 (2 * (v : Int)))).run Try.prog W = .ok (.int .u8 0) W := fun W => get_at hat.1 W
  have hx1 : ∀ W, (Instr.index 9 (.string ⟨T.toArray⟩) (.int .i64 (2 * (v : Int) + 1))).run Try.prog W = .ok (.int .u8 c.toNat) W := fun W => by
    have := get_at hat.2 W
    rw [hc] at this
    exact this
  have htli : (T.length : Int) = 8192 := by omega
  clear hat ha0 haN hi0 hiN hc hb
  go_upto_region 7 with (first
    | ((with_reducible refine HA.out.mono ?_)
       rintro e w2 ⟨rfl, hb2⟩
       have H2 := Lib.hid (H1.out.ext hb2)
       clear hb2 HA H1)
    | ((with_reducible refine (HRt.out _ H2.out.below).mono ?_)
       rintro e w3 ⟨rfl, hb3⟩
       have H3 := Lib.hid (H2.out.ext hb3)
       clear hb3 H2)
    | ((with_reducible refine (HT.out _ H3.out.below).mono ?_)
       rintro e w4 ⟨rfl, hb4⟩
       have H4 := Lib.hid (H3.out.ext hb4)
       clear hb4 H3)
    | ((with_reducible refine (HP.out _).mono ?_)
       rintro e w5 ⟨rfl, rfl⟩
       skip))
  refine wp_region_ext (by kernel_rfl) (by kernel_rfl) ?_
  repeat (go_big_quiet_step ((go_at_call 20; exact Calls.ext _ (HI.out _ (H4.out.below.trans ((Ext.below _).mono H4.out.le))))))
  refine wpQuiet_nil ?_
  rintro w8 ⟨⟨_, hb8⟩, rfl⟩
  try simp only [] at *
  have H8 := Lib.hid (H4.out.ext hb8)
  clear hb8
  go_wp2_with fail
  go_ret
  exact ⟨rfl, H8.out.below⟩
end Go.Proofs.Ytjekdodboihfhaa

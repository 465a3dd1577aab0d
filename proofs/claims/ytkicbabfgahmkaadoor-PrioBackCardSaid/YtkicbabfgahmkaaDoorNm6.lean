/- The law PrioBack. (Printed by tools/mknm6.py.) -/
import Derived.Test.YtkicbabfgahmkaaDoorNmA
import Derived.Test.YtkicbabfgahmkaaDoorOpsA
set_option linter.all false
namespace Go.Proofs.YtkicbabfgahmkaaDoor
open Go.RowKit
theorem pt_neq (x y : Pt) (W : World) : (binOp .neq 55 (.agg x.vals.toArray) (.agg y.vals.toArray)).run Tryd.prog W = .ok (.bool (!decide (x = y))) W := by
  rw [run_neq_struct, show (10000 : Nat) = 9998 + 1 + 1 from rfl, pt_eqIn]; rfl
theorem pt_guard2 (op : BinOp) (x y : Pt) (p q : Operand) (W : World) : (eqGuard op 55 p q (.agg x.vals.toArray) (.agg y.vals.toArray)).run Tryd.prog W = .ok () W := run_eqGuard_agg W op _ p q _ _ (by kernel_rfl)
section
variable {B : Nat} {w0 w : World} {A : List It} {q g : Nat} {R : RS}
theorem new_e0 (H : St B w0 w A) (s : List UInt8) (hs : s.length ≤ 1000000) :
    Calls Tryd.prog 36 #[.string ⟨s.toArray⟩, .int .i64 0] w fun e w' => e = .returned (.pointer (some ⟨w.heap.size, 0, none⟩)) ∧ St B w0 w' (rd w.heap.size (newM s 0) 0 :: A) := new_st H s 0 (by omega)
theorem rdb_e (H : St B w0 w (rd q R g :: A)) {b : Br} {R' : RS} (h : readBrM R = (b, R')) :
    Calls Tryd.prog 37 #[.pointer (some ⟨q, 0, none⟩)] w fun e w' => ∃ g', e = .returned (.agg b.vals.toArray) ∧ St B w0 w' (rd q R' g' :: A) := by
  have k := readBr_st H
  rw [h] at k
  exact k.mono fun e w' ⟨a, g', b⟩ => ⟨g', a, b⟩
theorem rdp_e (H : St B w0 w (rd q R g :: A)) {p : Pt} {R' : RS} (h : readPtM R = (p, R')) :
    Calls Tryd.prog 38 #[.pointer (some ⟨q, 0, none⟩)] w fun e w' => ∃ g', e = .returned (.agg p.vals.toArray) ∧ St B w0 w' (rd q R' g' :: A) := by
  have k := readPt_st H
  rw [h] at k
  exact k.mono fun e w' ⟨a, g', b⟩ => ⟨g', a, b⟩
theorem err_e0 (H : St B w0 w (rd q R g :: A)) (h : R.err = none) :
    Calls Tryd.prog 39 #[.pointer (some ⟨q, 0, none⟩)] w fun e w' => e = .returned .nilIface ∧ w = w' := by
  have k := err_st H
  rw [errV_none h] at k
  exact k
theorem left_e0 (H : St B w0 w (rd q R g :: A)) (h : R.s.length - R.at_ = 0) :
    Calls Tryd.prog 40 #[.pointer (some ⟨q, 0, none⟩)] w fun e w' => e = .returned (.int .i64 0) ∧ St B w0 w' (rd q R g :: A) := by
  have k := left_st H
  rw [h] at k
  exact k
end
set_option maxRecDepth 100000 in
set_option maxHeartbeats 4000000 in
theorem law_PrioBack (v0 : Value) (b : Br) (v1 : Value) (p : Pt) (s : List UInt8) (hs : s.length ≤ 9223372036854775807) (w : World) (hv0 : v0 = .agg b.vals.toArray) (hv1 : v1 = .agg p.vals.toArray) (hV : Vars w) :
    Calls Tryd.prog 9 #[v0, v1, .string ⟨s.toArray⟩] w fun e w' => e = .returned (.bool true) ∧ Below w.heap.size w w' := by
  subst hv0 hv1
  have H0 := Lib.hid ((St.init w).alloc2 b.vals p.vals 53 55)
  have HV := Lib.hid (hV.ext H0.out.below)
  have hV0 := Lib.hid hV
  have HA := Lib.hid (named_any _ HV.out)
  have hRb := fun W => prioRight_any b W
  have hRp := fun W => prioPort_any p W
  have Hq : Hid (∀ W, s.length ≤ 100 → Vars W → Calls Tryd.prog 35 #[.string ⟨s.toArray⟩] W fun e w' => e = .returned (brV (Br.ofText s)) ∧ Below W.heap.size W w') := Lib.hid (fun W hl h => prParse_any s (by omega) W h)
  have Hb : Hid (∀ c, Br.ofText s = some c → c.okB = true ∧ c.text = s) := Lib.hid (fun c h => br_ofText_ok h)
  clear hV
  cases hb : b.okB
  · have HRb : Hid (∀ W, Calls Tryd.prog 30 #[.agg b.vals.toArray] W fun e w' => e = .returned (.bool false) ∧ Below W.heap.size W w') := Lib.hid (fun W => by have := hRb W; rwa [hb] at this)
    clear hb hRb hRp
    go_enter Tryd.func9, Tryd.ntmps9
    go_upto_region 1 with (fail)
    generalize World.alloc (World.alloc _ _) _ = w1 at *
    go_upto_region 3 with (first
      | ((with_reducible refine HA.out.mono ?_)
         rintro e w2 ⟨rfl, hb2⟩
         have H2 := Lib.hid (H0.out.ext hb2)
         have V2 := Lib.hid (HV.out.ext hb2)
         clear hb2))
    have R2 := Lib.hid (Blk.box (H2.out.at 1 rfl)).range
    go_upto_region 11 with (first
      | (with_reducible refine wpList_load_rng (ty := 53) b.vals (by with_unfolding_all rfl) R2.out Tryd.underlying53 (by with_unfolding_all rfl) (by with_unfolding_all exact info53) ?_)
      | ((with_reducible refine (HRb.out _).mono ?_)
         rintro e w3 ⟨rfl, hb3⟩
         have H3 := Lib.hid (H2.out.ext hb3)
         have V3 := Lib.hid (V2.out.ext hb3)
         clear hb3))
    by_cases hl : 100 < s.length
    · have hl2 : (100 : Int) < (s.length : Int) := by omega
      go_wp2_with fail
      go_ret
      exact ⟨rfl, H3.out.below⟩
    have hq := Hq.out w3 (by omega) V3.out
    have hl2 : ¬ (100 : Int) < (s.length : Int) := by omega
    have Hl := Lib.hid hl
    clear hl Hq
    cases hO : Br.ofText s with
    | none =>
      have hq2 : Hid (Calls Tryd.prog 35 #[.string ⟨s.toArray⟩] w3 fun e w' => e = .returned (.tuple #[.agg Br.zero.vals.toArray, .iface 80 (.int .i64 3)]) ∧ Below w3.heap.size w3 w') := by
        rw [hO] at hq; exact Lib.hid hq
      have HE : ∀ W, (binOp .eql 53 (.agg #[.int .i64 0, .int .i64 0, .int .u8 0, .int .u8 0, .int .u8 0, .int .u8 0, .int .u8 0, .int .u8 0]) (.agg #[.int .i64 0, .int .i64 0, .int .u8 0, .int .u8 0, .int .u8 0, .int .u8 0, .int .u8 0, .int .u8 0])).run Tryd.prog W = .ok (.bool true) W := fun W => by
        have := br_eq Br.zero Br.zero W
        rw [decide_eq_true rfl] at this
        exact this
      have HG : ∀ p q W, (eqGuard .eql 53 p q (.agg #[.int .i64 0, .int .i64 0, .int .u8 0, .int .u8 0, .int .u8 0, .int .u8 0, .int .u8 0, .int .u8 0]) (.agg #[.int .i64 0, .int .i64 0, .int .u8 0, .int .u8 0, .int .u8 0, .int .u8 0, .int .u8 0, .int .u8 0])).run Tryd.prog W = .ok () W := fun p q W => br_guard .eql Br.zero Br.zero p q W
      have HE2 : ∀ W, (binOp .eql 53 (.agg Br.zero.vals.toArray) (.agg #[.int .i64 0, .int .i64 0, .int .u8 0, .int .u8 0, .int .u8 0, .int .u8 0, .int .u8 0, .int .u8 0])).run Tryd.prog W = .ok (.bool true) W := HE
      have HG2 : ∀ p q W, (eqGuard .eql 53 p q (.agg Br.zero.vals.toArray) (.agg #[.int .i64 0, .int .i64 0, .int .u8 0, .int .u8 0, .int .u8 0, .int .u8 0, .int .u8 0, .int .u8 0])).run Tryd.prog W = .ok () W := HG
      clear hO hq Hb
      go_upto_region 15 with (first
        | ((with_reducible refine hq2.out.mono ?_)
           rintro e w20 ⟨rfl, hb20⟩
           have H20 := Lib.hid (H3.out.ext hb20)
           clear hb20)
        | (with_reducible refine wpList_store_blk (ty := 53) (o := 0) _ Br.zero.vals (by with_unfolding_all rfl) (by with_unfolding_all rfl) (Blk.new w20 zBrd 53) (by with_unfolding_all exact Nat.le_refl _) (by with_unfolding_all exact info53) (Br.one _) (fun W21 hBW21 hoW21 => ?_)))
      have H21 := Lib.hid ((H20.out.alloc zBrd 53).sets (L' := Br.zero.vals) hBW21 hoW21)
      clear hBW21 hoW21
      have R21 := Lib.hid (Blk.box (H21.out.at 0 rfl)).range
      go_wp2_with (first
        | (with_reducible refine wpList_load_rng (ty := 53) Br.zero.vals (by with_unfolding_all rfl) R21.out Tryd.underlying53 (by with_unfolding_all rfl) (by with_unfolding_all exact info53) ?_))
      go_ret
      exact ⟨rfl, H21.out.below⟩
    | some c =>
      obtain ⟨hok, htx⟩ := Hb.out c hO
      have hq2 : Hid (Calls Tryd.prog 35 #[.string ⟨s.toArray⟩] w3 fun e w' => e = .returned (.tuple #[.agg c.vals.toArray, .nilIface]) ∧ Below w3.heap.size w3 w') := by
        rw [hO] at hq; exact Lib.hid hq
      have HT : Hid (∀ W, Vars W → Calls Tryd.prog 34 #[.agg c.vals.toArray] W fun e w' => e = .returned (.tuple #[.string ⟨s.toArray⟩, .nilIface]) ∧ Below W.heap.size W w') := Lib.hid (fun W h => by
        have := prText_any c W h
        unfold txV at this
        rw [hok, htx] at this
        exact this)
      clear hO hq Hb htx hok
      go_upto_region 16 with (first
        | ((with_reducible refine hq2.out.mono ?_)
           rintro e w20 ⟨rfl, hb20⟩
           have H20 := Lib.hid (H3.out.ext hb20)
           have V20 := Lib.hid (V3.out.ext hb20)
           clear hb20)
        | (with_reducible refine wpList_store_blk (ty := 53) (o := 0) _ c.vals (by with_unfolding_all rfl) (by with_unfolding_all rfl) (Blk.new w20 zBrd 53) (by with_unfolding_all exact Nat.le_refl _) (by with_unfolding_all exact info53) (Br.one _) (fun W21 hBW21 hoW21 => ?_)))
      have H21 := Lib.hid ((H20.out.alloc zBrd 53).sets (L' := c.vals) hBW21 hoW21)
      have V21 : Hid (Vars W21) := Lib.hid (V20.out.ext (Only.fresh hoW21).1)
      clear hBW21 hoW21
      have R21 := Lib.hid (Blk.box (H21.out.at 0 rfl)).range
      generalize w20.heap.size = g20 at *
      go_wp2_with (first
        | (with_reducible refine wpList_load_rng (ty := 53) c.vals (by with_unfolding_all rfl) R21.out Tryd.underlying53 (by with_unfolding_all rfl) (by with_unfolding_all exact info53) ?_)
        | ((with_reducible refine (HT.out W21 V21.out).mono ?_)
           rintro e w22 ⟨rfl, hb22⟩
           have H22 := Lib.hid (H21.out.ext hb22)
           clear hb22))
      go_ret
      exact ⟨rfl, H22.out.below⟩
  cases hp : p.okB
  · have HRb : Hid (∀ W, Calls Tryd.prog 30 #[.agg b.vals.toArray] W fun e w' => e = .returned (.bool true) ∧ Below W.heap.size W w') := Lib.hid (fun W => by have := hRb W; rwa [hb] at this)
    have HRp : Hid (∀ W, Calls Tryd.prog 31 #[.agg #[.int .i64 p.prio, .int .i64 p.no]] W fun e w' => e = .returned (.bool false) ∧ Below W.heap.size W w') := Lib.hid (fun W => by have := hRp W; rw [hp] at this; exact this)
    clear hb hp hRb hRp
    go_enter Tryd.func9, Tryd.ntmps9
    go_upto_region 1 with (fail)
    generalize World.alloc (World.alloc _ _) _ = w1 at *
    go_upto_region 3 with (first
      | ((with_reducible refine HA.out.mono ?_)
         rintro e w2 ⟨rfl, hb2⟩
         have H2 := Lib.hid (H0.out.ext hb2)
         have V2 := Lib.hid (HV.out.ext hb2)
         clear hb2))
    have R2 := Lib.hid (Blk.box (H2.out.at 1 rfl)).range
    go_upto_region 11 with (first
      | (with_reducible refine wpList_load_rng (ty := 53) b.vals (by with_unfolding_all rfl) R2.out Tryd.underlying53 (by with_unfolding_all rfl) (by with_unfolding_all exact info53) ?_)
      | ((with_reducible refine (HRb.out _).mono ?_)
         rintro e w3 ⟨rfl, hb3⟩
         have H3 := Lib.hid (H2.out.ext hb3)
         have V3 := Lib.hid (V2.out.ext hb3)
         have p0 : w3.cell? ⟨w.heap.size + 1, 0, none⟩ = some (.int .i64 p.prio) := (Blk.box (H3.out.at 0 rfl)).cell 0
         have p1 : w3.cell? ⟨w.heap.size + 1, 1, none⟩ = some (.int .i64 p.no) := (Blk.box (H3.out.at 0 rfl)).cell 1
         clear hb3)
      | ((with_reducible refine (HRp.out _).mono ?_)
         rintro e w4 ⟨rfl, hb4⟩
         have H4 := Lib.hid (H3.out.ext hb4)
         have V4 := Lib.hid (V3.out.ext hb4)
         clear hb4))
    by_cases hl : 100 < s.length
    · have hl2 : (100 : Int) < (s.length : Int) := by omega
      go_wp2_with fail
      go_ret
      exact ⟨rfl, H4.out.below⟩
    have hq := Hq.out w4 (by omega) V4.out
    have hl2 : ¬ (100 : Int) < (s.length : Int) := by omega
    have Hl := Lib.hid hl
    clear hl Hq
    cases hO : Br.ofText s with
    | none =>
      have hq2 : Hid (Calls Tryd.prog 35 #[.string ⟨s.toArray⟩] w4 fun e w' => e = .returned (.tuple #[.agg Br.zero.vals.toArray, .iface 80 (.int .i64 3)]) ∧ Below w4.heap.size w4 w') := by
        rw [hO] at hq; exact Lib.hid hq
      have HE : ∀ W, (binOp .eql 53 (.agg #[.int .i64 0, .int .i64 0, .int .u8 0, .int .u8 0, .int .u8 0, .int .u8 0, .int .u8 0, .int .u8 0]) (.agg #[.int .i64 0, .int .i64 0, .int .u8 0, .int .u8 0, .int .u8 0, .int .u8 0, .int .u8 0, .int .u8 0])).run Tryd.prog W = .ok (.bool true) W := fun W => by
        have := br_eq Br.zero Br.zero W
        rw [decide_eq_true rfl] at this
        exact this
      have HG : ∀ p q W, (eqGuard .eql 53 p q (.agg #[.int .i64 0, .int .i64 0, .int .u8 0, .int .u8 0, .int .u8 0, .int .u8 0, .int .u8 0, .int .u8 0]) (.agg #[.int .i64 0, .int .i64 0, .int .u8 0, .int .u8 0, .int .u8 0, .int .u8 0, .int .u8 0, .int .u8 0])).run Tryd.prog W = .ok () W := fun p q W => br_guard .eql Br.zero Br.zero p q W
      have HE2 : ∀ W, (binOp .eql 53 (.agg Br.zero.vals.toArray) (.agg #[.int .i64 0, .int .i64 0, .int .u8 0, .int .u8 0, .int .u8 0, .int .u8 0, .int .u8 0, .int .u8 0])).run Tryd.prog W = .ok (.bool true) W := HE
      have HG2 : ∀ p q W, (eqGuard .eql 53 p q (.agg Br.zero.vals.toArray) (.agg #[.int .i64 0, .int .i64 0, .int .u8 0, .int .u8 0, .int .u8 0, .int .u8 0, .int .u8 0, .int .u8 0])).run Tryd.prog W = .ok () W := HG
      clear hO hq Hb
      go_upto_region 15 with (first
        | ((with_reducible refine hq2.out.mono ?_)
           rintro e w20 ⟨rfl, hb20⟩
           have H20 := Lib.hid (H4.out.ext hb20)
           clear hb20)
        | (with_reducible refine wpList_store_blk (ty := 53) (o := 0) _ Br.zero.vals (by with_unfolding_all rfl) (by with_unfolding_all rfl) (Blk.new w20 zBrd 53) (by with_unfolding_all exact Nat.le_refl _) (by with_unfolding_all exact info53) (Br.one _) (fun W21 hBW21 hoW21 => ?_)))
      have H21 := Lib.hid ((H20.out.alloc zBrd 53).sets (L' := Br.zero.vals) hBW21 hoW21)
      clear hBW21 hoW21
      have R21 := Lib.hid (Blk.box (H21.out.at 0 rfl)).range
      go_wp2_with (first
        | (with_reducible refine wpList_load_rng (ty := 53) Br.zero.vals (by with_unfolding_all rfl) R21.out Tryd.underlying53 (by with_unfolding_all rfl) (by with_unfolding_all exact info53) ?_))
      go_ret
      exact ⟨rfl, H21.out.below⟩
    | some c =>
      obtain ⟨hok, htx⟩ := Hb.out c hO
      have hq2 : Hid (Calls Tryd.prog 35 #[.string ⟨s.toArray⟩] w4 fun e w' => e = .returned (.tuple #[.agg c.vals.toArray, .nilIface]) ∧ Below w4.heap.size w4 w') := by
        rw [hO] at hq; exact Lib.hid hq
      have HT : Hid (∀ W, Vars W → Calls Tryd.prog 34 #[.agg c.vals.toArray] W fun e w' => e = .returned (.tuple #[.string ⟨s.toArray⟩, .nilIface]) ∧ Below W.heap.size W w') := Lib.hid (fun W h => by
        have := prText_any c W h
        unfold txV at this
        rw [hok, htx] at this
        exact this)
      clear hO hq Hb htx hok
      go_upto_region 16 with (first
        | ((with_reducible refine hq2.out.mono ?_)
           rintro e w20 ⟨rfl, hb20⟩
           have H20 := Lib.hid (H4.out.ext hb20)
           have V20 := Lib.hid (V4.out.ext hb20)
           clear hb20)
        | (with_reducible refine wpList_store_blk (ty := 53) (o := 0) _ c.vals (by with_unfolding_all rfl) (by with_unfolding_all rfl) (Blk.new w20 zBrd 53) (by with_unfolding_all exact Nat.le_refl _) (by with_unfolding_all exact info53) (Br.one _) (fun W21 hBW21 hoW21 => ?_)))
      have H21 := Lib.hid ((H20.out.alloc zBrd 53).sets (L' := c.vals) hBW21 hoW21)
      have V21 : Hid (Vars W21) := Lib.hid (V20.out.ext (Only.fresh hoW21).1)
      clear hBW21 hoW21
      have R21 := Lib.hid (Blk.box (H21.out.at 0 rfl)).range
      generalize w20.heap.size = g20 at *
      go_wp2_with (first
        | (with_reducible refine wpList_load_rng (ty := 53) c.vals (by with_unfolding_all rfl) R21.out Tryd.underlying53 (by with_unfolding_all rfl) (by with_unfolding_all exact info53) ?_)
        | ((with_reducible refine (HT.out W21 V21.out).mono ?_)
           rintro e w22 ⟨rfl, hb22⟩
           have H22 := Lib.hid (H21.out.ext hb22)
           clear hb22))
      go_ret
      exact ⟨rfl, H22.out.below⟩
  · have HRb : Hid (∀ W, Calls Tryd.prog 30 #[.agg b.vals.toArray] W fun e w' => e = .returned (.bool true) ∧ Below W.heap.size W w') := Lib.hid (fun W => by have := hRb W; rwa [hb] at this)
    have HRp : Hid (∀ W, Calls Tryd.prog 31 #[.agg #[.int .i64 p.prio, .int .i64 p.no]] W fun e w' => e = .returned (.bool true) ∧ Below W.heap.size W w') := Lib.hid (fun W => by have := hRp W; rw [hp] at this; exact this)
    have HK := Lib.hid (fun W => pack_ok b hb W)
    have HKp := Lib.hid (fun W => packPort_ok p hp W)
    have HT : Hid (∀ W, Vars W → Calls Tryd.prog 34 #[.agg b.vals.toArray] W fun e w' => e = .returned (.tuple #[.string ⟨b.text.toArray⟩, .nilIface]) ∧ Below W.heap.size W w') := Lib.hid (fun W h => by
      have := prText_any b W h
      unfold txV at this
      rw [hb] at this
      exact this)
    have HPs : Hid (∀ W, Vars W → Calls Tryd.prog 35 #[.string ⟨b.text.toArray⟩] W fun e w' => e = .returned (.tuple #[.agg b.vals.toArray, .nilIface]) ∧ Below W.heap.size W w') := Lib.hid (fun W h => by
      have := prParse_any b.text (by have := (Br.text_len hb).2.2; omega) W h
      rwa [br_ofText hb] at this)
    have HN : ∀ W, (binOp .neq 53 (.agg b.vals.toArray) (.agg b.vals.toArray)).run Tryd.prog W = .ok (.bool false) W := fun W => by
      rw [br_neq, decide_eq_true rfl]; rfl
    have HG := fun p q W => br_guard .neq b b p q W
    have HNp : ∀ W, (binOp .neq 55 (.agg p.vals.toArray) (.agg p.vals.toArray)).run Tryd.prog W = .ok (.bool false) W := fun W => by
      rw [pt_neq, decide_eq_true rfl]; rfl
    have HGp := fun x q W => pt_guard2 .neq p p x q W
    have hl8 := b.bytes_len
    have hl2 := p.bytes_len
    have hL0 : (newM (b.bytes ++ p.bytes) 0).Left (b.bytes ++ p.bytes) := newM_left _ 0 (by simp only [List.length_append]; omega)
    obtain ⟨hr1, hL1⟩ := readBr_left hb hL0
    obtain ⟨hr2, hL2⟩ := readPt_left (rest := []) hp (by rw [List.append_nil]; exact hL1)
    have hx1 := hL2.none
    have hx2 : ((((newM (b.bytes ++ p.bytes) 0).skip 2).skip 6).skip 2).s.length - ((((newM (b.bytes ++ p.bytes) 0).skip 2).skip 6).skip 2).at_ = 0 := by
      have := hL2.len
      simp only [List.length_nil] at this
      omega
    clear hL0 hL1 hL2
    generalize ((((newM (b.bytes ++ p.bytes) 0).skip 2).skip 6).skip 2) = R3 at *
    generalize (((newM (b.bytes ++ p.bytes) 0).skip 2).skip 6) = R1 at *
    have HR1 := Lib.hid hr1
    have HR2 := Lib.hid hr2
    have HX1 := Lib.hid hx1
    have HX2 := Lib.hid hx2
    clear hr1 hr2 hx1 hx2 hb hp hRb hRp
    generalize b.text = bt at *
    generalize b.bytes = X at *
    generalize p.bytes = Y at *
    go_enter Tryd.func9, Tryd.ntmps9
    go_upto_region 1 with (fail)
    generalize World.alloc (World.alloc _ _) _ = w1 at *
    go_upto_region 3 with (first
      | ((with_reducible refine HA.out.mono ?_)
         rintro e w2 ⟨rfl, hb2⟩
         have H2 := Lib.hid (H0.out.ext hb2)
         have V2 := Lib.hid (HV.out.ext hb2)
         clear hb2))
    have R2 := Lib.hid (Blk.box (H2.out.at 1 rfl)).range
    go_upto_region 4 with (first
      | (with_reducible refine wpList_load_rng (ty := 53) b.vals (by with_unfolding_all rfl) R2.out Tryd.underlying53 (by with_unfolding_all rfl) (by with_unfolding_all exact info53) ?_)
      | ((with_reducible refine (HRb.out _).mono ?_)
         rintro e w3 ⟨rfl, hb3⟩
         have H3 := Lib.hid (H2.out.ext hb3)
         have V3 := Lib.hid (V2.out.ext hb3)
         have p0 : w3.cell? ⟨w.heap.size + 1, 0, none⟩ = some (.int .i64 p.prio) := (Blk.box (H3.out.at 0 rfl)).cell 0
         have p1 : w3.cell? ⟨w.heap.size + 1, 1, none⟩ = some (.int .i64 p.no) := (Blk.box (H3.out.at 0 rfl)).cell 1
         clear hb3)
      | ((with_reducible refine (HRp.out _).mono ?_)
         rintro e w4 ⟨rfl, hb4⟩
         have H4 := Lib.hid (H3.out.ext hb4)
         have V4 := Lib.hid (V3.out.ext hb4)
         clear hb4))
    have R4 := Lib.hid (Blk.box (H4.out.at 1 rfl)).range
    clear p0 p1
    go_upto_region 7 with (first
      | (with_reducible refine wpList_load_rng (ty := 53) b.vals (by with_unfolding_all rfl) R4.out Tryd.underlying53 (by with_unfolding_all rfl) (by with_unfolding_all exact info53) ?_)
      | ((with_reducible refine (HK.out _).mono ?_)
         rintro e w5 ⟨rfl, hb5⟩
         have H5 := Lib.hid (H4.out.ext hb5)
         have V5 := Lib.hid (V4.out.ext hb5)
         have R5 := Lib.hid (Blk.box (H5.out.at 0 rfl)).range
         clear hb5 R4)
      | (with_reducible refine wpList_load_rng (ty := 55) p.vals (by with_unfolding_all rfl) R5.out Tryd.underlying55 (by with_unfolding_all rfl) (by with_unfolding_all exact info55) ?_)
      | ((with_reducible refine (HKp.out _).mono ?_)
         rintro e w6 ⟨rfl, hb6⟩
         have H6 := Lib.hid (H5.out.ext hb6)
         have V6 := Lib.hid (V5.out.ext hb6)
         have R6 := Lib.hid (Blk.box (H6.out.at 1 rfl)).range
         clear hb6 R5)
      | (with_reducible refine wpList_load_rng (ty := 53) b.vals (by with_unfolding_all rfl) R6.out Tryd.underlying53 (by with_unfolding_all rfl) (by with_unfolding_all exact info53) ?_)
      | ((with_reducible refine (HT.out w6 V6.out).mono ?_)
         rintro e w7 ⟨rfl, hb7⟩
         have H7 := Lib.hid (H6.out.ext hb7)
         have V7 := Lib.hid (V6.out.ext hb7)
         clear hb7 R6))
    go_upto_region 8 with (first
      | ((with_reducible refine (HPs.out w7 V7.out).mono ?_)
         rintro e w8 ⟨rfl, hb8⟩
         have H8 := Lib.hid (H7.out.ext hb8)
         have V8 := Lib.hid (V7.out.ext hb8)
         clear hb8)
      | (with_reducible refine wpList_store_blk (ty := 53) (o := 0) _ b.vals (by with_unfolding_all rfl) (by with_unfolding_all rfl) (Blk.new w8 zBrd 53) (by with_unfolding_all exact Nat.le_refl _) (by with_unfolding_all exact info53) (Br.one _) (fun W9 hBW9 hoW9 => ?_)))
    have H9 : Hid (St w.heap.size w W9 (bk w8.heap.size 53 b.vals :: bk (w.heap.size + 1) 55 p.vals :: bk w.heap.size 53 b.vals :: [])) := Lib.hid ((H8.out.alloc zBrd 53).sets (L' := b.vals) hBW9 hoW9)
    have V9 : Hid (Vars W9) := Lib.hid (V8.out.ext (Only.fresh hoW9).1)
    clear hBW9 hoW9
    generalize w8.heap.size = g7 at *
    have hsm : ¬ 9223372036854775807 < X.length + Y.length := by omega
    have HNw := Lib.hid (new_e0 H9.out (X ++ Y) (by simp only [List.length_append]; omega))
    go_upto_region 9 with (first
      | ((with_reducible refine HNw.out.mono ?_)
         rintro e w10 ⟨rfl, h10⟩
         have H10 := Lib.hid h10
         clear h10))
    have B10 : Hid (Below w.heap.size w w10) := Lib.hid H10.out.below
    clear HNw
    generalize W9.heap.size = q at *
    have hS10 : (w10.drew.rangeAt w.heap.size 0 b.vals ∧ w10.drew.rangeAt (w.heap.size + 1) 0 p.vals) ∧ w10.drew.rangeAt g7 0 b.vals := ⟨⟨(Blk.box ((Lib.hid H10.out.drew).out.at 3 rfl)).range, (Blk.box ((Lib.hid H10.out.drew).out.at 2 rfl)).range⟩, (Blk.box ((Lib.hid H10.out.drew).out.at 1 rfl)).range⟩
    refine wp_region_last (fun X => (X.rangeAt w.heap.size 0 b.vals ∧ X.rangeAt (w.heap.size + 1) 0 p.vals) ∧ X.rangeAt g7 0 b.vals) 44 (by kernel_rfl) hS10 (fun hHeld => ?_)
    refine wpAnyG_takeG 0 (oi := ?o36) ?v36 ?hi36 (by kernel_rfl) (by kernel_rfl) (by decide) (by kernel_rfl) (by kernel_rfl) ?hq36 ?hg36 ?hy36 (by assumption) ?hk36
    case hi36 => (simp only [List.getElem?_toArray, List.getElem?_cons_succ, List.getElem?_cons_zero]; rfl)
    case hq36 => exact fun _ _ _ h => h
    case hg36 => (first | with_unfolding_all rfl | (go_simp; with_unfolding_all rfl))
    case hy36 => (intro X hX; (first | obtain ⟨hXa, hXb, hXc, hXd, hXe⟩ := hX | obtain ⟨hXa, hXb, hXc, hXd⟩ := hX | obtain ⟨hXa, hXb, hXc⟩ := hX | obtain ⟨hXa, hXb⟩ := hX | skip); go_simp; try with_reducible rfl)
    try simp only [Act.put, List.setIfInBounds_toArray, List.set_cons_zero, List.set_cons_succ]
    refine wpAnyG_takeG 1 (oi := ?o37) ?v37 ?hi37 (by kernel_rfl) (by kernel_rfl) (by decide) (by kernel_rfl) (by kernel_rfl) ?hq37 ?hg37 ?hy37 (by assumption) ?hk37
    case hi37 => (simp only [List.getElem?_toArray, List.getElem?_cons_succ, List.getElem?_cons_zero]; rfl)
    case hq37 => exact fun _ _ _ h => h
    case hg37 => (first | with_unfolding_all rfl | (go_simp; with_unfolding_all rfl))
    case hy37 => (intro X hX; (first | obtain ⟨hXa, hXb, hXc, hXd, hXe⟩ := hX | obtain ⟨hXa, hXb, hXc, hXd⟩ := hX | obtain ⟨hXa, hXb, hXc⟩ := hX | obtain ⟨hXa, hXb⟩ := hX | skip); go_simp; try with_reducible rfl)
    try simp only [Act.put, List.setIfInBounds_toArray, List.set_cons_zero, List.set_cons_succ]
    refine wpAnyG_takeG 2 (oi := ?o38) ?v38 ?hi38 (by kernel_rfl) (by kernel_rfl) (by decide) (by kernel_rfl) (by kernel_rfl) ?hq38 ?hg38 ?hy38 (by assumption) ?hk38
    case hi38 => (simp only [List.getElem?_toArray, List.getElem?_cons_succ, List.getElem?_cons_zero]; rfl)
    case hq38 => exact fun _ _ _ h => h
    case hg38 => (first | with_unfolding_all rfl | (go_simp; with_unfolding_all rfl))
    case hy38 => (intro X hX; (first | obtain ⟨hXa, hXb, hXc, hXd, hXe⟩ := hX | obtain ⟨hXa, hXb, hXc, hXd⟩ := hX | obtain ⟨hXa, hXb, hXc⟩ := hX | obtain ⟨hXa, hXb⟩ := hX | skip); go_simp; try with_reducible rfl)
    try simp only [Act.put, List.setIfInBounds_toArray, List.set_cons_zero, List.set_cons_succ]
    refine wpAnyG_takeG 3 (oi := ?o39) ?v39 ?hi39 (by kernel_rfl) (by kernel_rfl) (by decide) (by kernel_rfl) (by kernel_rfl) ?hq39 ?hg39 ?hy39 (by assumption) ?hk39
    case hi39 => (simp only [List.getElem?_toArray, List.getElem?_cons_succ, List.getElem?_cons_zero]; rfl)
    case hq39 => exact fun _ _ _ h => h
    case hg39 => (first | with_unfolding_all rfl | (go_simp; with_unfolding_all rfl))
    case hy39 => (intro X hX; (first | obtain ⟨hXa, hXb, hXc, hXd, hXe⟩ := hX | obtain ⟨hXa, hXb, hXc, hXd⟩ := hX | obtain ⟨hXa, hXb, hXc⟩ := hX | obtain ⟨hXa, hXb⟩ := hX | skip); go_simp; try with_reducible rfl)
    try simp only [Act.put, List.setIfInBounds_toArray, List.set_cons_zero, List.set_cons_succ]
    refine wpAnyG_takeG 4 (oi := ?o40) ?v40 ?hi40 (by kernel_rfl) (by kernel_rfl) (by decide) (by kernel_rfl) (by kernel_rfl) ?hq40 ?hg40 ?hy40 (by assumption) ?hk40
    case hi40 => (simp only [List.getElem?_toArray, List.getElem?_cons_succ, List.getElem?_cons_zero]; rfl)
    case hq40 => exact fun _ _ _ h => h
    case hg40 => (first | with_unfolding_all rfl | (go_simp; with_unfolding_all rfl))
    case hy40 => (intro X hX; (first | obtain ⟨hXa, hXb, hXc, hXd, hXe⟩ := hX | obtain ⟨hXa, hXb, hXc, hXd⟩ := hX | obtain ⟨hXa, hXb, hXc⟩ := hX | obtain ⟨hXa, hXb⟩ := hX | skip); go_simp; try with_reducible rfl)
    try simp only [Act.put, List.setIfInBounds_toArray, List.set_cons_zero, List.set_cons_succ]
    refine wpAnyG_takeG 5 (oi := ?o41) ?v41 ?hi41 (by kernel_rfl) (by kernel_rfl) (by decide) (by kernel_rfl) (by kernel_rfl) ?hq41 ?hg41 ?hy41 (by assumption) ?hk41
    case hi41 => (simp only [List.getElem?_toArray, List.getElem?_cons_succ, List.getElem?_cons_zero]; rfl)
    case hq41 => exact fun _ _ _ h => h
    case hg41 => (first | with_unfolding_all rfl | (go_simp; with_unfolding_all rfl))
    case hy41 => (intro X hX; (first | obtain ⟨hXa, hXb, hXc, hXd, hXe⟩ := hX | obtain ⟨hXa, hXb, hXc, hXd⟩ := hX | obtain ⟨hXa, hXb, hXc⟩ := hX | obtain ⟨hXa, hXb⟩ := hX | skip); go_simp; try with_reducible rfl)
    try simp only [Act.put, List.setIfInBounds_toArray, List.set_cons_zero, List.set_cons_succ]
    refine wpAnyG_takeG 6 (oi := ?o42) ?v42 ?hi42 (by kernel_rfl) (by kernel_rfl) (by decide) (by kernel_rfl) (by kernel_rfl) ?hq42 ?hg42 ?hy42 (by assumption) ?hk42
    case hi42 => (simp only [List.getElem?_toArray, List.getElem?_cons_succ, List.getElem?_cons_zero]; rfl)
    case hq42 => exact fun _ _ _ h => h
    case hg42 => (first | with_unfolding_all rfl | (go_simp; with_unfolding_all rfl))
    case hy42 => (intro X hX; (first | obtain ⟨hXa, hXb, hXc, hXd, hXe⟩ := hX | obtain ⟨hXa, hXb, hXc, hXd⟩ := hX | obtain ⟨hXa, hXb, hXc⟩ := hX | obtain ⟨hXa, hXb⟩ := hX | skip); go_simp; try with_reducible rfl)
    try simp only [Act.put, List.setIfInBounds_toArray, List.set_cons_zero, List.set_cons_succ]
    refine wpAnyG_takeG 7 (oi := ?o43) ?v43 ?hi43 (by kernel_rfl) (by kernel_rfl) (by decide) (by kernel_rfl) (by kernel_rfl) ?hq43 ?hg43 ?hy43 (by assumption) ?hk43
    case hi43 => (simp only [List.getElem?_toArray, List.getElem?_cons_succ, List.getElem?_cons_zero]; rfl)
    case hq43 => exact fun _ _ _ h => h
    case hg43 => (first | with_unfolding_all rfl | (go_simp; with_unfolding_all rfl))
    case hy43 => (intro X hX; (first | obtain ⟨hXa, hXb, hXc, hXd, hXe⟩ := hX | obtain ⟨hXa, hXb, hXc, hXd⟩ := hX | obtain ⟨hXa, hXb, hXc⟩ := hX | obtain ⟨hXa, hXb⟩ := hX | skip); go_simp; try with_reducible rfl)
    try simp only [Act.put, List.setIfInBounds_toArray, List.set_cons_zero, List.set_cons_succ]
    refine wpAnyG_takeG 8 (oi := ?o44) ?v44 ?hi44 (by kernel_rfl) (by kernel_rfl) (by decide) (by kernel_rfl) (by kernel_rfl) ?hq44 ?hg44 ?hy44 (by assumption) ?hk44
    case hi44 => (simp only [List.getElem?_toArray, List.getElem?_cons_succ, List.getElem?_cons_zero]; rfl)
    case hq44 => exact fun _ _ _ h => h
    case hg44 => (first | with_unfolding_all rfl | (go_simp; with_unfolding_all rfl))
    case hy44 => (intro X hX; (first | obtain ⟨hXa, hXb, hXc, hXd, hXe⟩ := hX | obtain ⟨hXa, hXb, hXc, hXd⟩ := hX | obtain ⟨hXa, hXb, hXc⟩ := hX | obtain ⟨hXa, hXb⟩ := hX | skip); go_simp; try with_reducible rfl)
    try simp only [Act.put, List.setIfInBounds_toArray, List.set_cons_zero, List.set_cons_succ]
    refine wpAnyG_takeG 9 (oi := ?o45) ?v45 ?hi45 (by kernel_rfl) (by kernel_rfl) (by decide) (by kernel_rfl) (by kernel_rfl) ?hq45 ?hg45 ?hy45 (by assumption) ?hk45
    case hi45 => (simp only [List.getElem?_toArray, List.getElem?_cons_succ, List.getElem?_cons_zero]; rfl)
    case hq45 => exact fun _ _ _ h => h
    case hg45 => (first | with_unfolding_all rfl | (go_simp; with_unfolding_all rfl))
    case hy45 => (intro X hX; (first | obtain ⟨hXa, hXb, hXc, hXd, hXe⟩ := hX | obtain ⟨hXa, hXb, hXc, hXd⟩ := hX | obtain ⟨hXa, hXb, hXc⟩ := hX | obtain ⟨hXa, hXb⟩ := hX | skip); go_simp; try with_reducible rfl)
    try simp only [Act.put, List.setIfInBounds_toArray, List.set_cons_zero, List.set_cons_succ]
    refine wpAnyG_takeG 10 (oi := ?o46) ?v46 ?hi46 (by kernel_rfl) (by kernel_rfl) (by decide) (by kernel_rfl) (by kernel_rfl) ?hq46 ?hg46 ?hy46 (by assumption) ?hk46
    case hi46 => (simp only [List.getElem?_toArray, List.getElem?_cons_succ, List.getElem?_cons_zero]; rfl)
    case hq46 => exact fun _ _ _ h => h
    case hg46 => (first | with_unfolding_all rfl | (go_simp; with_unfolding_all rfl))
    case hy46 => (intro X hX; (first | obtain ⟨hXa, hXb, hXc, hXd, hXe⟩ := hX | obtain ⟨hXa, hXb, hXc, hXd⟩ := hX | obtain ⟨hXa, hXb, hXc⟩ := hX | obtain ⟨hXa, hXb⟩ := hX | skip); go_simp; try with_reducible rfl)
    try simp only [Act.put, List.setIfInBounds_toArray, List.set_cons_zero, List.set_cons_succ]
    refine wpAnyG_takeG 11 (oi := ?o47) ?v47 ?hi47 (by kernel_rfl) (by kernel_rfl) (by decide) (by kernel_rfl) (by kernel_rfl) ?hq47 ?hg47 ?hy47 (by assumption) ?hk47
    case hi47 => (simp only [List.getElem?_toArray, List.getElem?_cons_succ, List.getElem?_cons_zero]; rfl)
    case hq47 => exact fun _ _ _ h => h
    case hg47 => (first | with_unfolding_all rfl | (go_simp; with_unfolding_all rfl))
    case hy47 => (intro X hX; (first | obtain ⟨hXa, hXb, hXc, hXd, hXe⟩ := hX | obtain ⟨hXa, hXb, hXc, hXd⟩ := hX | obtain ⟨hXa, hXb, hXc⟩ := hX | obtain ⟨hXa, hXb⟩ := hX | skip); go_simp; try with_reducible rfl)
    try simp only [Act.put, List.setIfInBounds_toArray, List.set_cons_zero, List.set_cons_succ]
    refine wpAnyG_takeG 12 (oi := ?o48) ?v48 ?hi48 (by kernel_rfl) (by kernel_rfl) (by decide) (by kernel_rfl) (by kernel_rfl) ?hq48 ?hg48 ?hy48 (by assumption) ?hk48
    case hi48 => (simp only [List.getElem?_toArray, List.getElem?_cons_succ, List.getElem?_cons_zero]; rfl)
    case hq48 => exact fun _ _ _ h => h
    case hg48 => (first | with_unfolding_all rfl | (go_simp; with_unfolding_all rfl))
    case hy48 => (intro X hX; (first | obtain ⟨hXa, hXb, hXc, hXd, hXe⟩ := hX | obtain ⟨hXa, hXb, hXc, hXd⟩ := hX | obtain ⟨hXa, hXb, hXc⟩ := hX | obtain ⟨hXa, hXb⟩ := hX | skip); go_simp; try with_reducible rfl)
    try simp only [Act.put, List.setIfInBounds_toArray, List.set_cons_zero, List.set_cons_succ]
    refine wpAnyG_takeG 13 (oi := ?o49) ?v49 ?hi49 (by kernel_rfl) (by kernel_rfl) (by decide) (by kernel_rfl) (by kernel_rfl) ?hq49 ?hg49 ?hy49 (by assumption) ?hk49
    case hi49 => (simp only [List.getElem?_toArray, List.getElem?_cons_succ, List.getElem?_cons_zero]; rfl)
    case hq49 => exact fun _ _ _ h => h
    case hg49 => (first | with_unfolding_all rfl | (go_simp; with_unfolding_all rfl))
    case hy49 => (intro X hX; (first | obtain ⟨hXa, hXb, hXc, hXd, hXe⟩ := hX | obtain ⟨hXa, hXb, hXc, hXd⟩ := hX | obtain ⟨hXa, hXb, hXc⟩ := hX | obtain ⟨hXa, hXb⟩ := hX | skip); go_simp; try with_reducible rfl)
    try simp only [Act.put, List.setIfInBounds_toArray, List.set_cons_zero, List.set_cons_succ]
    refine wpAnyG_takeG 14 (oi := ?o50) ?v50 ?hi50 (by kernel_rfl) (by kernel_rfl) (by decide) (by kernel_rfl) (by kernel_rfl) ?hq50 ?hg50 ?hy50 (by assumption) ?hk50
    case hi50 => (simp only [List.getElem?_toArray, List.getElem?_cons_succ, List.getElem?_cons_zero]; rfl)
    case hq50 => exact fun _ _ _ h => h
    case hg50 => (first | with_unfolding_all rfl | (go_simp; with_unfolding_all rfl))
    case hy50 => (intro X hX; (first | obtain ⟨hXa, hXb, hXc, hXd, hXe⟩ := hX | obtain ⟨hXa, hXb, hXc, hXd⟩ := hX | obtain ⟨hXa, hXb, hXc⟩ := hX | obtain ⟨hXa, hXb⟩ := hX | skip); go_simp; try with_reducible rfl)
    try simp only [Act.put, List.setIfInBounds_toArray, List.set_cons_zero, List.set_cons_succ]
    refine wpAnyG_takeG 15 (oi := ?o51) ?v51 ?hi51 (by kernel_rfl) (by kernel_rfl) (by decide) (by kernel_rfl) (by kernel_rfl) ?hq51 ?hg51 ?hy51 (by assumption) ?hk51
    case hi51 => (simp only [List.getElem?_toArray, List.getElem?_cons_succ, List.getElem?_cons_zero]; rfl)
    case hq51 => exact fun _ _ _ h => h
    case hg51 => (first | with_unfolding_all rfl | (go_simp; with_unfolding_all rfl))
    case hy51 => (intro X hX; (first | obtain ⟨hXa, hXb, hXc, hXd, hXe⟩ := hX | obtain ⟨hXa, hXb, hXc, hXd⟩ := hX | obtain ⟨hXa, hXb, hXc⟩ := hX | obtain ⟨hXa, hXb⟩ := hX | skip); go_simp; try with_reducible rfl)
    try simp only [Act.put, List.setIfInBounds_toArray, List.set_cons_zero, List.set_cons_succ]
    refine wpAnyG_takeG 16 (oi := ?o52) ?v52 ?hi52 (by kernel_rfl) (by kernel_rfl) (by decide) (by kernel_rfl) (by kernel_rfl) ?hq52 ?hg52 ?hy52 (by assumption) ?hk52
    case hi52 => (simp only [List.getElem?_toArray, List.getElem?_cons_succ, List.getElem?_cons_zero]; rfl)
    case hq52 => exact fun _ _ _ h => h
    case hg52 => (first | with_unfolding_all rfl | (go_simp; with_unfolding_all rfl))
    case hy52 => (intro X hX; (first | obtain ⟨hXa, hXb, hXc, hXd, hXe⟩ := hX | obtain ⟨hXa, hXb, hXc, hXd⟩ := hX | obtain ⟨hXa, hXb, hXc⟩ := hX | obtain ⟨hXa, hXb⟩ := hX | skip); go_simp; try with_reducible rfl)
    try simp only [Act.put, List.setIfInBounds_toArray, List.set_cons_zero, List.set_cons_succ]
    refine wpAnyG_takeG 17 (oi := ?o53) ?v53 ?hi53 (by kernel_rfl) (by kernel_rfl) (by decide) (by kernel_rfl) (by kernel_rfl) ?hq53 ?hg53 ?hy53 (by assumption) ?hk53
    case hi53 => (simp only [List.getElem?_toArray, List.getElem?_cons_succ, List.getElem?_cons_zero]; rfl)
    case hq53 => exact fun _ _ _ h => h
    case hg53 => (first | with_unfolding_all rfl | (go_simp; with_unfolding_all rfl))
    case hy53 => (intro X hX; (first | obtain ⟨hXa, hXb, hXc, hXd, hXe⟩ := hX | obtain ⟨hXa, hXb, hXc, hXd⟩ := hX | obtain ⟨hXa, hXb, hXc⟩ := hX | obtain ⟨hXa, hXb⟩ := hX | skip); go_simp; try with_reducible rfl)
    try simp only [Act.put, List.setIfInBounds_toArray, List.set_cons_zero, List.set_cons_succ]
    refine wpAnyG_takeG 18 (oi := ?o54) ?v54 ?hi54 (by kernel_rfl) (by kernel_rfl) (by decide) (by kernel_rfl) (by kernel_rfl) ?hq54 ?hg54 ?hy54 (by assumption) ?hk54
    case hi54 => (simp only [List.getElem?_toArray, List.getElem?_cons_succ, List.getElem?_cons_zero]; rfl)
    case hq54 => exact fun _ _ _ h => h
    case hg54 => (first | with_unfolding_all rfl | (go_simp; with_unfolding_all rfl))
    case hy54 => (intro X hX; (first | obtain ⟨hXa, hXb, hXc, hXd, hXe⟩ := hX | obtain ⟨hXa, hXb, hXc, hXd⟩ := hX | obtain ⟨hXa, hXb, hXc⟩ := hX | obtain ⟨hXa, hXb⟩ := hX | skip); go_simp; try with_reducible rfl)
    try simp only [Act.put, List.setIfInBounds_toArray, List.set_cons_zero, List.set_cons_succ]
    refine wpAnyG_takeG 19 (oi := ?o55) ?v55 ?hi55 (by kernel_rfl) (by kernel_rfl) (by decide) (by kernel_rfl) (by kernel_rfl) ?hq55 ?hg55 ?hy55 (by assumption) ?hk55
    case hi55 => (simp only [List.getElem?_toArray, List.getElem?_cons_succ, List.getElem?_cons_zero]; rfl)
    case hq55 => exact fun _ _ _ h => h
    case hg55 => (first | with_unfolding_all rfl | (go_simp; with_unfolding_all rfl))
    case hy55 => (intro X hX; (first | obtain ⟨hXa, hXb, hXc, hXd, hXe⟩ := hX | obtain ⟨hXa, hXb, hXc, hXd⟩ := hX | obtain ⟨hXa, hXb, hXc⟩ := hX | obtain ⟨hXa, hXb⟩ := hX | skip); go_simp; try with_reducible rfl)
    try simp only [Act.put, List.setIfInBounds_toArray, List.set_cons_zero, List.set_cons_succ]
    refine wpAnyG_takeG 21 (oi := ?o56) (.agg (b.vals).toArray) ?hi56 (by kernel_rfl) (by kernel_rfl) (by decide) (by kernel_rfl) (by kernel_rfl) ?hq56 ?hg56 ?hy56 (by assumption) ?hk56
    case hi56 => (simp only [List.getElem?_toArray, List.getElem?_cons_succ, List.getElem?_cons_zero]; rfl)
    case hq56 => exact fun _ _ _ h => h
    case hg56 => (first | with_unfolding_all rfl | (go_simp; with_unfolding_all rfl))
    case hy56 => exact fun X hX => exec_load_rng (ty := 53) (b.vals) (by with_unfolding_all rfl) (hX.1.1) Tryd.underlying53 rfl info53
    try simp only [Act.put, List.setIfInBounds_toArray, List.set_cons_zero, List.set_cons_succ]
    refine wpAnyG_oneG 20 (o := ?o57) (by kernel_rfl) ?hi57 ?hg57 ?hk57
    case hi57 => (simp only [List.getElem?_toArray, List.getElem?_cons_succ, List.getElem?_cons_zero]; rfl)
    case hg57 => with_unfolding_all rfl
    intro K hK
    go_simp
    refine (rdb_e H10.out.drew HR1.out).mono ?_
    rintro e w11 ⟨g11, rfl, h11⟩
    have H11 := Lib.hid h11
    have hS11 : (w11.rangeAt w.heap.size 0 b.vals ∧ w11.rangeAt (w.heap.size + 1) 0 p.vals) ∧ w11.rangeAt g7 0 b.vals := ⟨⟨(Blk.box (H11.out.at 3 rfl)).range, (Blk.box (H11.out.at 2 rfl)).range⟩, (Blk.box (H11.out.at 1 rfl)).range⟩
    refine hK.out _ _ (fun _ => hS11) (fun _ => ?_)
    clear hK K hHeld
    have hHeld := hS11
    try simp only [Act.put, List.setIfInBounds_toArray, List.set_cons_zero, List.set_cons_succ]
    refine wpAnyG_takeG 22 (oi := ?o59) ?v59 ?hi59 (by kernel_rfl) (by kernel_rfl) (by decide) (by kernel_rfl) (by kernel_rfl) ?hq59 ?hg59 ?hy59 (by assumption) ?hk59
    case hi59 => (simp only [List.getElem?_toArray, List.getElem?_cons_succ, List.getElem?_cons_zero]; rfl)
    case hq59 => exact fun _ _ _ h => h
    case hg59 => (first | with_unfolding_all rfl | (go_simp; with_unfolding_all rfl))
    case hy59 => (intro X hX; (first | obtain ⟨hXa, hXb, hXc, hXd, hXe⟩ := hX | obtain ⟨hXa, hXb, hXc, hXd⟩ := hX | obtain ⟨hXa, hXb, hXc⟩ := hX | obtain ⟨hXa, hXb⟩ := hX | skip); go_simp; try with_reducible rfl)
    try simp only [Act.put, List.setIfInBounds_toArray, List.set_cons_zero, List.set_cons_succ]
    refine wpAnyG_takeG 23 (oi := ?o60) ?v60 ?hi60 (by kernel_rfl) (by kernel_rfl) (by decide) (by kernel_rfl) (by kernel_rfl) ?hq60 ?hg60 ?hy60 (by assumption) ?hk60
    case hi60 => (simp only [List.getElem?_toArray, List.getElem?_cons_succ, List.getElem?_cons_zero]; rfl)
    case hq60 => exact fun _ _ _ h => h
    case hg60 => (first | with_unfolding_all rfl | (go_simp; with_unfolding_all rfl))
    case hy60 => (intro X hX; (first | obtain ⟨hXa, hXb, hXc, hXd, hXe⟩ := hX | obtain ⟨hXa, hXb, hXc, hXd⟩ := hX | obtain ⟨hXa, hXb, hXc⟩ := hX | obtain ⟨hXa, hXb⟩ := hX | skip); go_simp; try with_reducible rfl)
    try simp only [Act.put, List.setIfInBounds_toArray, List.set_cons_zero, List.set_cons_succ]
    refine wpAnyG_takeG 24 (oi := ?o61) ?v61 ?hi61 (by kernel_rfl) (by kernel_rfl) (by decide) (by kernel_rfl) (by kernel_rfl) ?hq61 ?hg61 ?hy61 (by assumption) ?hk61
    case hi61 => (simp only [List.getElem?_toArray, List.getElem?_cons_succ, List.getElem?_cons_zero]; rfl)
    case hq61 => exact fun _ _ _ h => h
    case hg61 => (first | with_unfolding_all rfl | (go_simp; with_unfolding_all rfl))
    case hy61 => (intro X hX; (first | obtain ⟨hXa, hXb, hXc, hXd, hXe⟩ := hX | obtain ⟨hXa, hXb, hXc, hXd⟩ := hX | obtain ⟨hXa, hXb, hXc⟩ := hX | obtain ⟨hXa, hXb⟩ := hX | skip); go_simp; try with_reducible rfl)
    try simp only [Act.put, List.setIfInBounds_toArray, List.set_cons_zero, List.set_cons_succ]
    refine wpAnyG_takeG 25 (oi := ?o62) ?v62 ?hi62 (by kernel_rfl) (by kernel_rfl) (by decide) (by kernel_rfl) (by kernel_rfl) ?hq62 ?hg62 ?hy62 (by assumption) ?hk62
    case hi62 => (simp only [List.getElem?_toArray, List.getElem?_cons_succ, List.getElem?_cons_zero]; rfl)
    case hq62 => exact fun _ _ _ h => h
    case hg62 => (first | with_unfolding_all rfl | (go_simp; with_unfolding_all rfl))
    case hy62 => (intro X hX; (first | obtain ⟨hXa, hXb, hXc, hXd, hXe⟩ := hX | obtain ⟨hXa, hXb, hXc, hXd⟩ := hX | obtain ⟨hXa, hXb, hXc⟩ := hX | obtain ⟨hXa, hXb⟩ := hX | skip); go_simp; try with_reducible rfl)
    try simp only [Act.put, List.setIfInBounds_toArray, List.set_cons_zero, List.set_cons_succ]
    refine wpAnyG_takeG 27 (oi := ?o63) (.agg (p.vals).toArray) ?hi63 (by kernel_rfl) (by kernel_rfl) (by decide) (by kernel_rfl) (by kernel_rfl) ?hq63 ?hg63 ?hy63 (by assumption) ?hk63
    case hi63 => (simp only [List.getElem?_toArray, List.getElem?_cons_succ, List.getElem?_cons_zero]; rfl)
    case hq63 => exact fun _ _ _ h => h
    case hg63 => (first | with_unfolding_all rfl | (go_simp; with_unfolding_all rfl))
    case hy63 => exact fun X hX => exec_load_rng (ty := 55) (p.vals) (by with_unfolding_all rfl) (hX.1.2) Tryd.underlying55 rfl info55
    try simp only [Act.put, List.setIfInBounds_toArray, List.set_cons_zero, List.set_cons_succ]
    refine wpAnyG_oneG 26 (o := ?o64) (by kernel_rfl) ?hi64 ?hg64 ?hk64
    case hi64 => (simp only [List.getElem?_toArray, List.getElem?_cons_succ, List.getElem?_cons_zero]; rfl)
    case hg64 => with_unfolding_all rfl
    intro K hK
    go_simp
    refine (rdp_e H11.out HR2.out).mono ?_
    rintro e w12 ⟨g12, rfl, h12⟩
    have H12 := Lib.hid h12
    have hS12 : (w12.rangeAt w.heap.size 0 b.vals ∧ w12.rangeAt (w.heap.size + 1) 0 p.vals) ∧ w12.rangeAt g7 0 b.vals := ⟨⟨(Blk.box (H12.out.at 3 rfl)).range, (Blk.box (H12.out.at 2 rfl)).range⟩, (Blk.box (H12.out.at 1 rfl)).range⟩
    refine hK.out _ _ (fun _ => hS12) (fun _ => ?_)
    clear hK K hHeld
    have hHeld := hS12
    try simp only [Act.put, List.setIfInBounds_toArray, List.set_cons_zero, List.set_cons_succ]
    refine wpAnyG_takeG 28 (oi := ?o66) ?v66 ?hi66 (by kernel_rfl) (by kernel_rfl) (by decide) (by kernel_rfl) (by kernel_rfl) ?hq66 ?hg66 ?hy66 (by assumption) ?hk66
    case hi66 => (simp only [List.getElem?_toArray, List.getElem?_cons_succ, List.getElem?_cons_zero]; rfl)
    case hq66 => exact fun _ _ _ h => h
    case hg66 => (first | with_unfolding_all rfl | (go_simp; with_unfolding_all rfl))
    case hy66 => (intro X hX; (first | obtain ⟨hXa, hXb, hXc, hXd, hXe⟩ := hX | obtain ⟨hXa, hXb, hXc, hXd⟩ := hX | obtain ⟨hXa, hXb, hXc⟩ := hX | obtain ⟨hXa, hXb⟩ := hX | skip); go_simp; try with_reducible rfl)
    try simp only [Act.put, List.setIfInBounds_toArray, List.set_cons_zero, List.set_cons_succ]
    refine wpAnyG_takeG 29 (oi := ?o67) ?v67 ?hi67 (by kernel_rfl) (by kernel_rfl) (by decide) (by kernel_rfl) (by kernel_rfl) ?hq67 ?hg67 ?hy67 (by assumption) ?hk67
    case hi67 => (simp only [List.getElem?_toArray, List.getElem?_cons_succ, List.getElem?_cons_zero]; rfl)
    case hq67 => exact fun _ _ _ h => h
    case hg67 => (first | with_unfolding_all rfl | (go_simp; with_unfolding_all rfl))
    case hy67 => (intro X hX; (first | obtain ⟨hXa, hXb, hXc, hXd, hXe⟩ := hX | obtain ⟨hXa, hXb, hXc, hXd⟩ := hX | obtain ⟨hXa, hXb, hXc⟩ := hX | obtain ⟨hXa, hXb⟩ := hX | skip); go_simp; try with_reducible rfl)
    try simp only [Act.put, List.setIfInBounds_toArray, List.set_cons_zero, List.set_cons_succ]
    refine wpAnyG_takeG 30 (oi := ?o68) ?v68 ?hi68 (by kernel_rfl) (by kernel_rfl) (by decide) (by kernel_rfl) (by kernel_rfl) ?hq68 ?hg68 ?hy68 (by assumption) ?hk68
    case hi68 => (simp only [List.getElem?_toArray, List.getElem?_cons_succ, List.getElem?_cons_zero]; rfl)
    case hq68 => exact fun _ _ _ h => h
    case hg68 => (first | with_unfolding_all rfl | (go_simp; with_unfolding_all rfl))
    case hy68 => (intro X hX; (first | obtain ⟨hXa, hXb, hXc, hXd, hXe⟩ := hX | obtain ⟨hXa, hXb, hXc, hXd⟩ := hX | obtain ⟨hXa, hXb, hXc⟩ := hX | obtain ⟨hXa, hXb⟩ := hX | skip); go_simp; try with_reducible rfl)
    try simp only [Act.put, List.setIfInBounds_toArray, List.set_cons_zero, List.set_cons_succ]
    refine wpAnyG_takeG 31 (oi := ?o69) ?v69 ?hi69 (by kernel_rfl) (by kernel_rfl) (by decide) (by kernel_rfl) (by kernel_rfl) ?hq69 ?hg69 ?hy69 (by assumption) ?hk69
    case hi69 => (simp only [List.getElem?_toArray, List.getElem?_cons_succ, List.getElem?_cons_zero]; rfl)
    case hq69 => exact fun _ _ _ h => h
    case hg69 => (first | with_unfolding_all rfl | (go_simp; with_unfolding_all rfl))
    case hy69 => (intro X hX; (first | obtain ⟨hXa, hXb, hXc, hXd, hXe⟩ := hX | obtain ⟨hXa, hXb, hXc, hXd⟩ := hX | obtain ⟨hXa, hXb, hXc⟩ := hX | obtain ⟨hXa, hXb⟩ := hX | skip); go_simp; try with_reducible rfl)
    try simp only [Act.put, List.setIfInBounds_toArray, List.set_cons_zero, List.set_cons_succ]
    refine wpAnyG_oneG 32 (o := ?o70) (by kernel_rfl) ?hi70 ?hg70 ?hk70
    case hi70 => (simp only [List.getElem?_toArray, List.getElem?_cons_succ, List.getElem?_cons_zero]; rfl)
    case hg70 => with_unfolding_all rfl
    intro K hK
    go_simp
    refine (err_e0 H12.out HX1.out).mono ?_
    rintro e w13 ⟨rfl, hw13⟩
    subst hw13
    have H13 := Lib.hid H12.out
    have hS13 : (w12.rangeAt w.heap.size 0 b.vals ∧ w12.rangeAt (w.heap.size + 1) 0 p.vals) ∧ w12.rangeAt g7 0 b.vals := ⟨⟨(Blk.box (H13.out.at 3 rfl)).range, (Blk.box (H13.out.at 2 rfl)).range⟩, (Blk.box (H13.out.at 1 rfl)).range⟩
    refine hK.out _ _ (fun _ => hS13) (fun _ => ?_)
    clear hK K hHeld
    have hHeld := hS13
    try simp only [Act.put, List.setIfInBounds_toArray, List.set_cons_zero, List.set_cons_succ]
    refine wpAnyG_takeG 33 (oi := ?o72) ?v72 ?hi72 (by kernel_rfl) (by kernel_rfl) (by decide) (by kernel_rfl) (by kernel_rfl) ?hq72 ?hg72 ?hy72 (by assumption) ?hk72
    case hi72 => (simp only [List.getElem?_toArray, List.getElem?_cons_succ, List.getElem?_cons_zero]; rfl)
    case hq72 => exact fun _ _ _ h => h
    case hg72 => (first | with_unfolding_all rfl | (go_simp; with_unfolding_all rfl))
    case hy72 => (intro X hX; (first | obtain ⟨hXa, hXb, hXc, hXd, hXe⟩ := hX | obtain ⟨hXa, hXb, hXc, hXd⟩ := hX | obtain ⟨hXa, hXb, hXc⟩ := hX | obtain ⟨hXa, hXb⟩ := hX | skip); go_simp; try with_reducible rfl)
    try simp only [Act.put, List.setIfInBounds_toArray, List.set_cons_zero, List.set_cons_succ]
    refine wpAnyG_takeG 34 (oi := ?o73) ?v73 ?hi73 (by kernel_rfl) (by kernel_rfl) (by decide) (by kernel_rfl) (by kernel_rfl) ?hq73 ?hg73 ?hy73 (by assumption) ?hk73
    case hi73 => (simp only [List.getElem?_toArray, List.getElem?_cons_succ, List.getElem?_cons_zero]; rfl)
    case hq73 => exact fun _ _ _ h => h
    case hg73 => (first | with_unfolding_all rfl | (go_simp; with_unfolding_all rfl))
    case hy73 => (intro X hX; (first | obtain ⟨hXa, hXb, hXc, hXd, hXe⟩ := hX | obtain ⟨hXa, hXb, hXc, hXd⟩ := hX | obtain ⟨hXa, hXb, hXc⟩ := hX | obtain ⟨hXa, hXb⟩ := hX | skip); go_simp; try with_reducible rfl)
    try simp only [Act.put, List.setIfInBounds_toArray, List.set_cons_zero, List.set_cons_succ]
    refine wpAnyG_takeG 35 (oi := ?o74) ?v74 ?hi74 (by kernel_rfl) (by kernel_rfl) (by decide) (by kernel_rfl) (by kernel_rfl) ?hq74 ?hg74 ?hy74 (by assumption) ?hk74
    case hi74 => (simp only [List.getElem?_toArray, List.getElem?_cons_succ, List.getElem?_cons_zero]; rfl)
    case hq74 => exact fun _ _ _ h => h
    case hg74 => (first | with_unfolding_all rfl | (go_simp; with_unfolding_all rfl))
    case hy74 => (intro X hX; (first | obtain ⟨hXa, hXb, hXc, hXd, hXe⟩ := hX | obtain ⟨hXa, hXb, hXc, hXd⟩ := hX | obtain ⟨hXa, hXb, hXc⟩ := hX | obtain ⟨hXa, hXb⟩ := hX | skip); go_simp; try with_reducible rfl)
    try simp only [Act.put, List.setIfInBounds_toArray, List.set_cons_zero, List.set_cons_succ]
    refine wpAnyG_takeG 36 (oi := ?o75) ?v75 ?hi75 (by kernel_rfl) (by kernel_rfl) (by decide) (by kernel_rfl) (by kernel_rfl) ?hq75 ?hg75 ?hy75 (by assumption) ?hk75
    case hi75 => (simp only [List.getElem?_toArray, List.getElem?_cons_succ, List.getElem?_cons_zero]; rfl)
    case hq75 => exact fun _ _ _ h => h
    case hg75 => (first | with_unfolding_all rfl | (go_simp; with_unfolding_all rfl))
    case hy75 => (intro X hX; (first | obtain ⟨hXa, hXb, hXc, hXd, hXe⟩ := hX | obtain ⟨hXa, hXb, hXc, hXd⟩ := hX | obtain ⟨hXa, hXb, hXc⟩ := hX | obtain ⟨hXa, hXb⟩ := hX | skip); go_simp; try with_reducible rfl)
    try simp only [Act.put, List.setIfInBounds_toArray, List.set_cons_zero, List.set_cons_succ]
    refine wpAnyG_oneG 37 (o := ?o76) (by kernel_rfl) ?hi76 ?hg76 ?hk76
    case hi76 => (simp only [List.getElem?_toArray, List.getElem?_cons_succ, List.getElem?_cons_zero]; rfl)
    case hg76 => with_unfolding_all rfl
    intro K hK
    go_simp
    refine (left_e0 H13.out HX2.out).mono ?_
    rintro e w14 ⟨rfl, h14⟩
    have H14 := Lib.hid h14
    have hS14 : (w14.rangeAt w.heap.size 0 b.vals ∧ w14.rangeAt (w.heap.size + 1) 0 p.vals) ∧ w14.rangeAt g7 0 b.vals := ⟨⟨(Blk.box (H14.out.at 3 rfl)).range, (Blk.box (H14.out.at 2 rfl)).range⟩, (Blk.box (H14.out.at 1 rfl)).range⟩
    refine hK.out _ _ (fun _ => hS14) (fun _ => ?_)
    clear hK K hHeld
    have hHeld := hS14
    try simp only [Act.put, List.setIfInBounds_toArray, List.set_cons_zero, List.set_cons_succ]
    refine wpAnyG_takeG 38 (oi := ?o78) ?v78 ?hi78 (by kernel_rfl) (by kernel_rfl) (by decide) (by kernel_rfl) (by kernel_rfl) ?hq78 ?hg78 ?hy78 (by assumption) ?hk78
    case hi78 => (simp only [List.getElem?_toArray, List.getElem?_cons_succ, List.getElem?_cons_zero]; rfl)
    case hq78 => exact fun _ _ _ h => h
    case hg78 => (first | with_unfolding_all rfl | (go_simp; with_unfolding_all rfl))
    case hy78 => (intro X hX; (first | obtain ⟨hXa, hXb, hXc, hXd, hXe⟩ := hX | obtain ⟨hXa, hXb, hXc, hXd⟩ := hX | obtain ⟨hXa, hXb, hXc⟩ := hX | obtain ⟨hXa, hXb⟩ := hX | skip); go_simp; try with_reducible rfl)
    try simp only [Act.put, List.setIfInBounds_toArray, List.set_cons_zero, List.set_cons_succ]
    refine wpAnyG_takeG 39 (oi := ?o79) ?v79 ?hi79 (by kernel_rfl) (by kernel_rfl) (by decide) (by kernel_rfl) (by kernel_rfl) ?hq79 ?hg79 ?hy79 (by assumption) ?hk79
    case hi79 => (simp only [List.getElem?_toArray, List.getElem?_cons_succ, List.getElem?_cons_zero]; rfl)
    case hq79 => exact fun _ _ _ h => h
    case hg79 => (first | with_unfolding_all rfl | (go_simp; with_unfolding_all rfl))
    case hy79 => (intro X hX; (first | obtain ⟨hXa, hXb, hXc, hXd, hXe⟩ := hX | obtain ⟨hXa, hXb, hXc, hXd⟩ := hX | obtain ⟨hXa, hXb, hXc⟩ := hX | obtain ⟨hXa, hXb⟩ := hX | skip); go_simp; try with_reducible rfl)
    try simp only [Act.put, List.setIfInBounds_toArray, List.set_cons_zero, List.set_cons_succ]
    refine wpAnyG_takeG 40 (oi := ?o80) ?v80 ?hi80 (by kernel_rfl) (by kernel_rfl) (by decide) (by kernel_rfl) (by kernel_rfl) ?hq80 ?hg80 ?hy80 (by assumption) ?hk80
    case hi80 => (simp only [List.getElem?_toArray, List.getElem?_cons_succ, List.getElem?_cons_zero]; rfl)
    case hq80 => exact fun _ _ _ h => h
    case hg80 => (first | with_unfolding_all rfl | (go_simp; with_unfolding_all rfl))
    case hy80 => (intro X hX; (first | obtain ⟨hXa, hXb, hXc, hXd, hXe⟩ := hX | obtain ⟨hXa, hXb, hXc, hXd⟩ := hX | obtain ⟨hXa, hXb, hXc⟩ := hX | obtain ⟨hXa, hXb⟩ := hX | skip); go_simp; try with_reducible rfl)
    try simp only [Act.put, List.setIfInBounds_toArray, List.set_cons_zero, List.set_cons_succ]
    refine wpAnyG_takeG 41 (oi := ?o81) (.agg (b.vals).toArray) ?hi81 (by kernel_rfl) (by kernel_rfl) (by decide) (by kernel_rfl) (by kernel_rfl) ?hq81 ?hg81 ?hy81 (by assumption) ?hk81
    case hi81 => (simp only [List.getElem?_toArray, List.getElem?_cons_succ, List.getElem?_cons_zero]; rfl)
    case hq81 => exact fun _ _ _ h => h
    case hg81 => (first | with_unfolding_all rfl | (go_simp; with_unfolding_all rfl))
    case hy81 => exact fun X hX => exec_load_rng (ty := 53) (b.vals) (by with_unfolding_all rfl) (hX.2) Tryd.underlying53 rfl info53
    try simp only [Act.put, List.setIfInBounds_toArray, List.set_cons_zero, List.set_cons_succ]
    refine wpAnyG_takeG 42 (oi := ?o82) (.agg (b.vals).toArray) ?hi82 (by kernel_rfl) (by kernel_rfl) (by decide) (by kernel_rfl) (by kernel_rfl) ?hq82 ?hg82 ?hy82 (by assumption) ?hk82
    case hi82 => (simp only [List.getElem?_toArray, List.getElem?_cons_succ, List.getElem?_cons_zero]; rfl)
    case hq82 => exact fun _ _ _ h => h
    case hg82 => (first | with_unfolding_all rfl | (go_simp; with_unfolding_all rfl))
    case hy82 => exact fun X hX => exec_load_rng (ty := 53) (b.vals) (by with_unfolding_all rfl) (hX.1.1) Tryd.underlying53 rfl info53
    try simp only [Act.put, List.setIfInBounds_toArray, List.set_cons_zero, List.set_cons_succ]
    refine wpAnyG_takeG 43 (oi := ?o84) ?v84 ?hi84 (by kernel_rfl) (by kernel_rfl) (by decide) (by kernel_rfl) (by kernel_rfl) ?hq84 ?hg84 ?hy84 (by assumption) ?hk84
    case hi84 => (simp only [List.getElem?_toArray, List.getElem?_cons_succ, List.getElem?_cons_zero]; rfl)
    case hq84 => exact fun _ _ _ h => h
    case hg84 => (first | with_unfolding_all rfl | (go_simp; with_unfolding_all rfl))
    case hy84 => (intro X hX; (first | obtain ⟨hXa, hXb, hXc, hXd, hXe⟩ := hX | obtain ⟨hXa, hXb, hXc, hXd⟩ := hX | obtain ⟨hXa, hXb, hXc⟩ := hX | obtain ⟨hXa, hXb⟩ := hX | skip); go_simp; try with_reducible rfl)
    try simp only [Act.put, List.setIfInBounds_toArray, List.set_cons_zero, List.set_cons_succ]
    refine wpAnyG_one 44 (o := ?o85) (by kernel_rfl) ?hi85 ?hg85 ?hk85
    case hi85 => (simp only [List.getElem?_toArray, List.getElem?_cons_succ, List.getElem?_cons_zero]; rfl)
    case hg85 => rfl
    intro K hK
    go_simp
    refine hK.out _ _ (fun h => absurd rfl h) (fun _ => ?_)
    refine wpAnyG_done (by kernel_rfl) ?_ _
    clear hK K hHeld hS10 hS11 hS12 hS13 hS14
    have V14 : Hid (Vars w14) := Lib.hid (hV0.out.ext H14.out.below)
    go_upto_region 11 with (fail)
    by_cases hl : 100 < s.length
    · have hl2 : (100 : Int) < (s.length : Int) := by omega
      go_wp2_with fail
      go_ret
      exact ⟨rfl, H14.out.below⟩
    have hq := Hq.out w14 (by omega) V14.out
    have hl2 : ¬ (100 : Int) < (s.length : Int) := by omega
    have Hl := Lib.hid hl
    clear hl Hq
    cases hO : Br.ofText s with
    | none =>
      have hq2 : Hid (Calls Tryd.prog 35 #[.string ⟨s.toArray⟩] w14 fun e w' => e = .returned (.tuple #[.agg Br.zero.vals.toArray, .iface 80 (.int .i64 3)]) ∧ Below w14.heap.size w14 w') := by
        rw [hO] at hq; exact Lib.hid hq
      have HE : ∀ W, (binOp .eql 53 (.agg #[.int .i64 0, .int .i64 0, .int .u8 0, .int .u8 0, .int .u8 0, .int .u8 0, .int .u8 0, .int .u8 0]) (.agg #[.int .i64 0, .int .i64 0, .int .u8 0, .int .u8 0, .int .u8 0, .int .u8 0, .int .u8 0, .int .u8 0])).run Tryd.prog W = .ok (.bool true) W := fun W => by
        have := br_eq Br.zero Br.zero W
        rw [decide_eq_true rfl] at this
        exact this
      have HG : ∀ p q W, (eqGuard .eql 53 p q (.agg #[.int .i64 0, .int .i64 0, .int .u8 0, .int .u8 0, .int .u8 0, .int .u8 0, .int .u8 0, .int .u8 0]) (.agg #[.int .i64 0, .int .i64 0, .int .u8 0, .int .u8 0, .int .u8 0, .int .u8 0, .int .u8 0, .int .u8 0])).run Tryd.prog W = .ok () W := fun p q W => br_guard .eql Br.zero Br.zero p q W
      have HE2 : ∀ W, (binOp .eql 53 (.agg Br.zero.vals.toArray) (.agg #[.int .i64 0, .int .i64 0, .int .u8 0, .int .u8 0, .int .u8 0, .int .u8 0, .int .u8 0, .int .u8 0])).run Tryd.prog W = .ok (.bool true) W := HE
      have HG2 : ∀ p q W, (eqGuard .eql 53 p q (.agg Br.zero.vals.toArray) (.agg #[.int .i64 0, .int .i64 0, .int .u8 0, .int .u8 0, .int .u8 0, .int .u8 0, .int .u8 0, .int .u8 0])).run Tryd.prog W = .ok () W := HG
      clear hO hq Hb
      go_upto_region 15 with (first
        | ((with_reducible refine hq2.out.mono ?_)
           rintro e w20 ⟨rfl, hb20⟩
           have H20 := Lib.hid (H14.out.ext hb20)
           clear hb20)
        | (with_reducible refine wpList_store_blk (ty := 53) (o := 0) _ Br.zero.vals (by with_unfolding_all rfl) (by with_unfolding_all rfl) (Blk.new w20 zBrd 53) (by with_unfolding_all exact Nat.le_refl _) (by with_unfolding_all exact info53) (Br.one _) (fun W21 hBW21 hoW21 => ?_)))
      have H21 := Lib.hid ((H20.out.alloc zBrd 53).sets (L' := Br.zero.vals) hBW21 hoW21)
      clear hBW21 hoW21
      have R21 := Lib.hid (Blk.box (H21.out.at 0 rfl)).range
      go_wp2_with (first
        | (with_reducible refine wpList_load_rng (ty := 53) Br.zero.vals (by with_unfolding_all rfl) R21.out Tryd.underlying53 (by with_unfolding_all rfl) (by with_unfolding_all exact info53) ?_))
      go_ret
      exact ⟨rfl, H21.out.below⟩
    | some c =>
      obtain ⟨hok, htx⟩ := Hb.out c hO
      have hq2 : Hid (Calls Tryd.prog 35 #[.string ⟨s.toArray⟩] w14 fun e w' => e = .returned (.tuple #[.agg c.vals.toArray, .nilIface]) ∧ Below w14.heap.size w14 w') := by
        rw [hO] at hq; exact Lib.hid hq
      have HT : Hid (∀ W, Vars W → Calls Tryd.prog 34 #[.agg c.vals.toArray] W fun e w' => e = .returned (.tuple #[.string ⟨s.toArray⟩, .nilIface]) ∧ Below W.heap.size W w') := Lib.hid (fun W h => by
        have := prText_any c W h
        unfold txV at this
        rw [hok, htx] at this
        exact this)
      clear hO hq Hb htx hok
      go_upto_region 16 with (first
        | ((with_reducible refine hq2.out.mono ?_)
           rintro e w20 ⟨rfl, hb20⟩
           have H20 := Lib.hid (H14.out.ext hb20)
           have V20 := Lib.hid (V14.out.ext hb20)
           clear hb20)
        | (with_reducible refine wpList_store_blk (ty := 53) (o := 0) _ c.vals (by with_unfolding_all rfl) (by with_unfolding_all rfl) (Blk.new w20 zBrd 53) (by with_unfolding_all exact Nat.le_refl _) (by with_unfolding_all exact info53) (Br.one _) (fun W21 hBW21 hoW21 => ?_)))
      have H21 := Lib.hid ((H20.out.alloc zBrd 53).sets (L' := c.vals) hBW21 hoW21)
      have V21 : Hid (Vars W21) := Lib.hid (V20.out.ext (Only.fresh hoW21).1)
      clear hBW21 hoW21
      have R21 := Lib.hid (Blk.box (H21.out.at 0 rfl)).range
      generalize w20.heap.size = g20 at *
      go_wp2_with (first
        | (with_reducible refine wpList_load_rng (ty := 53) c.vals (by with_unfolding_all rfl) R21.out Tryd.underlying53 (by with_unfolding_all rfl) (by with_unfolding_all exact info53) ?_)
        | ((with_reducible refine (HT.out W21 V21.out).mono ?_)
           rintro e w22 ⟨rfl, hb22⟩
           have H22 := Lib.hid (H21.out.ext hb22)
           clear hb22))
      go_ret
      exact ⟨rfl, H22.out.below⟩
end Go.Proofs.YtkicbabfgahmkaaDoor

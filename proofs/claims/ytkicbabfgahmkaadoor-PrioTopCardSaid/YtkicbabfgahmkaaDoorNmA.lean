/- prio: Text. prio: Parse. (Printed by tools/mknm2.py.) prio.Less; named(). (Printed by tools/mknm3.py.) -/
import Derived.Test.YtkicbabfgahmkaaDoorMac4
import Derived.Test.YtkicbabfgahmkaaDoorVars
import Derived.Deep.DeepMust
import Derived.Test.YtkicbabfgahmkaaDoorHeldG
import Derived.Test.YtkicbabfgahmkaaDoorEq7
set_option linter.all false
namespace Go.Proofs.YtkicbabfgahmkaaDoor
open Go.RowKit
theorem range_two {w : World} {g : Nat} {a b : Value} {L : List Value} (h : w.rangeAt g 0 (a :: b :: L)) : w.rangeAt g 2 L := fun j v hv => by
  have := h (j + 2) v (by simpa using hv)
  rwa [show 0 + (j + 2) = 2 + j by omega] at this
theorem Br.text_len {b : Br} (hb : b.okB = true) : (Lib.decDigits b.prio.toNat).length ≤ 5 ∧ (Lib.decDigits b.ext.toNat).length ≤ 5 ∧ b.text.length ≤ 30 := by
  have ho := hb
  simp only [Br.okB, Bool.and_eq_true, decide_eq_true_eq] at ho
  obtain ⟨h1, h2, _, h4, h5⟩ := ho
  have d1 := dec_len b.prio.toNat (by omega)
  have d2 := dec_len b.ext.toNat (by omega)
  refine ⟨d1, d2, ?_⟩
  have := b.ad.text_len
  simp only [Br.text, List.length_append, List.length_cons]
  omega
def txV (b : Br) : Value := if b.okB then .tuple #[.string ⟨b.text.toArray⟩, .nilIface] else .tuple #[.string ⟨#[]⟩, .iface 80 (.int .i64 1)]
set_option maxRecDepth 100000 in
set_option maxHeartbeats 2000000 in
theorem prText_any (b : Br) (w : World) (hV : Vars w) :
    Calls Tryd.prog 34 #[.agg b.vals.toArray] w fun e w' => e = .returned (txV b) ∧ Below w.heap.size w w' := by
  have H0 := Lib.hid ((St.init w).alloc b.vals 53)
  have hR := fun W => prioRight_any b W
  unfold txV
  cases hto : b.okB
  · rw [hto] at hR
    have HT := Lib.hid hR
    clear hto hV hR
    go_enter Tryd.func34, Tryd.ntmps34
    go_upto_region 1 with (fail)
    generalize World.alloc _ _ = w1 at *
    go_wp2_with (first
      | (with_reducible refine wpList_load_rng (ty := 53) b.vals (by with_unfolding_all rfl) (Blk.box (H0.out.at 0 rfl)).range Tryd.underlying53 (by with_unfolding_all rfl) (by with_unfolding_all exact info53) ?_)
      | ((with_reducible refine (HT.out _).mono ?_)
         rintro e w2 ⟨rfl, hb2⟩
         have H2 := Lib.hid (H0.out.ext hb2)
         clear hb2))
    go_ret2
    exact ⟨rfl, H2.out.below⟩
  · rw [hto] at hR
    have HT := Lib.hid hR
    have HV := Lib.hid (hV.ext H0.out.below).t
    obtain ⟨d1, d2, d3⟩ := Br.text_len hto
    have ho := hto
    simp only [Br.okB, Bool.and_eq_true, decide_eq_true_eq] at ho
    obtain ⟨h1, h2, _, h4, h5⟩ := ho
    have HI1 : Hid (∀ W, Lib.TabIs Tryd.prog W "internal/strconv.uint64pow10" .u64 Lib.pow10Tab → Calls Tryd.prog 48 #[.int .i64 b.prio] W fun e w' => e = .returned (.string ⟨(Lib.decDigits b.prio.toNat).toArray⟩) ∧ Below W.heap.size W w') := Lib.hid (fun W h => by
      have := itoa_v b.prio.toNat (by omega) W h
      rwa [show ((b.prio.toNat : Nat) : Int) = b.prio by omega] at this)
    have HI2 : Hid (∀ W, Lib.TabIs Tryd.prog W "internal/strconv.uint64pow10" .u64 Lib.pow10Tab → Calls Tryd.prog 48 #[.int .i64 b.ext] W fun e w' => e = .returned (.string ⟨(Lib.decDigits b.ext.toNat).toArray⟩) ∧ Below W.heap.size W w') := Lib.hid (fun W h => by
      have := itoa_v b.ext.toNat (by omega) W h
      rwa [show ((b.ext.toNat : Nat) : Int) = b.ext by omega] at this)
    have HM := Lib.hid (mtext_any b.ad)
    have htx : b.text = Lib.decDigits b.prio.toNat ++ 46 :: (Lib.decDigits b.ext.toNat ++ 47 :: b.ad.text) := rfl
    have Htx := Lib.hid htx
    have d4 : b.ad.text.length = 17 := b.ad.text_len
    clear hto hV htx h1 h2 h4 h5 hR d3
    generalize b.text = T at *
    generalize Lib.decDigits b.prio.toNat = D1 at *
    generalize Lib.decDigits b.ext.toNat = D2 at *
    generalize b.ad.text = D3 at *
    go_enter Tryd.func34, Tryd.ntmps34
    go_upto_region 1 with (fail)
    generalize World.alloc _ _ = w1 at *
    go_upto_region 3 with (first
      | (with_reducible refine wpList_load_rng (ty := 53) b.vals (by with_unfolding_all rfl) (Blk.box (H0.out.at 0 rfl)).range Tryd.underlying53 (by with_unfolding_all rfl) (by with_unfolding_all exact info53) ?_)
      | ((with_reducible refine (HT.out _).mono ?_)
         rintro e w2 ⟨rfl, hb2⟩
         have H2 := Lib.hid (H0.out.ext hb2)
         have V2 := Lib.hid (tab_ext HV.out hb2)
         clear hb2))
    have c0 : w2.cell? ⟨w.heap.size, 0, none⟩ = some (.int .i64 b.prio) := (Blk.box (H2.out.at 0 rfl)).cell 0
    have c1 : w2.cell? ⟨w.heap.size, 1, none⟩ = some (.int .i64 b.ext) := (Blk.box (H2.out.at 0 rfl)).cell 1
    have RA := Lib.hid (range_two (Blk.box (H2.out.at 0 rfl)).range)
    have l0 := (H2.out.at 0 rfl).lt
    have s1 : ¬ 9223372036854775807 < D1.length + 1 := by omega
    have s2 : ¬ 9223372036854775807 < D1.length + 1 + D2.length := by omega
    have s3 : ¬ 9223372036854775807 < D1.length + (1 + D2.length) := by omega
    have s4 : ¬ 9223372036854775807 < D1.length + 1 + D2.length + 1 := by omega
    refine wp_region_ext (by kernel_rfl) (by kernel_rfl) ?_
    repeat (go_big_quiet_step (first
      | (go_at_call 48; exact Calls.ext _ (HI1.out _ (tab_ext V2.out (Ext.below _))))
      | (go_at_call 48; exact Calls.ext _ (HI2.out _ (tab_ext V2.out (Ext.below _))))))
    go_big_quiet_want
    with_reducible refine quiet_load_rng (b := ?b5) (off := ?o5) (ds := ?ds5) b.ad.vals ?hx5 ?hr5 ?hu5 ?hd5 ?hi5 ?hk5
    case hx5 => rfl
    case hr5 => rintro _ ⟨y, rfl⟩; exact rangeAt_below RA.out y.below l0
    case hu5 => exact Tryd.underlying23
    case hd5 => rfl
    case hi5 => exact info23
    go_simp
    go_big_quiet_on
    repeat (go_big_quiet_step ((go_at_call 16; exact Calls.ext _ (HM.out _))))
    refine wpQuiet_nil ?_
    rintro w5 ⟨⟨_, hb5⟩, rfl⟩
    try simp only [] at *
    go_wp2_with fail
    go_ret2
    exact ⟨by rw [Htx.out]; simp, H2.out.below.trans (hb5.mono H2.out.below.size)⟩
end Go.Proofs.YtkicbabfgahmkaaDoor
namespace Go.Proofs.YtkicbabfgahmkaaDoor
open Go.RowKit
theorem cut_len (s : List UInt8) (c : UInt8) : (Lib.cut s [c]).1.length ≤ s.length ∧ (Lib.cut s [c]).2.1.length ≤ s.length := by
  unfold Lib.cut
  split
  · simp only [List.length_take, List.length_drop]; omega
  · simp
def brV : Option Br → Value
  | some b => .tuple #[.agg b.vals.toArray, .nilIface]
  | none => .tuple #[.agg Br.zero.vals.toArray, .iface 80 (.int .i64 3)]
theorem br_built0 : Tryd.prog.built 53 [] = some Br.zero.vals.toArray := by kernel_rfl
theorem br_built3 (p x : Int) (a : Ad) : Tryd.prog.built 53 [(0, .int .i64 p), (1, .int .i64 x), (2, .agg a.vals.toArray)] = some (Br.vals ⟨p, x, a⟩).toArray := by
  obtain ⟨a0, a1, a2, a3, a4, a5⟩ := a
  kernel_rfl
/-- What a call tells of an error: nothing, or something. -/
def Bad (v : Value) : Prop := ∃ t u, v = .iface t u
theorem parse_e (s : List UInt8) (hs : s.length ≤ 1000000) (w : World) (hm : MaxL w) :
    Calls Tryd.prog 15 #[.string ⟨s.toArray⟩] w fun e w' => ∃ (a : Ad) (ev : Value), e = .returned (.tuple #[.agg a.vals.toArray, ev]) ∧ ((Ad.ofText s = some a ∧ ev = .nilIface) ∨ (Ad.ofText s = none ∧ Bad ev)) ∧ Below w.heap.size w w' := by
  refine (mparse_any s hs w hm).mono ?_
  rintro e w' ⟨rfl, hb⟩
  cases h : Ad.ofText s with
  | none => exact ⟨_, _, rfl, .inr ⟨rfl, _, _, rfl⟩, hb⟩
  | some a => exact ⟨_, _, rfl, .inl ⟨rfl, rfl⟩, hb⟩
theorem atoi_e (s : List UInt8) (hs : s.length ≤ 1000000) (w : World) (hV : Vars w) :
    Calls Tryd.prog 50 #[.string ⟨s.toArray⟩] w fun e w' => ∃ (n : Int) (ev : Value), e = .returned (.tuple #[.int .i64 n, ev]) ∧ ((Lib.atoiAll s = .ok n ∧ ev = .nilIface) ∨ ((∀ v, Lib.atoiAll s ≠ .ok v) ∧ Bad ev)) ∧ Below w.heap.size w w' := by
  by_cases h : ∃ v, Lib.atoiAll s = .ok v
  · obtain ⟨v, h⟩ := h
    refine (atoi_ok s hs v h w).mono ?_
    rintro e w' ⟨rfl, hb⟩
    exact ⟨_, _, rfl, .inl ⟨h, rfl⟩, hb⟩
  · have h : ∀ v, Lib.atoiAll s ≠ .ok v := fun v hv => h ⟨v, hv⟩
    refine (atoi_bad s hs h w hV.s hV.r).mono ?_
    rintro e w' ⟨n, N, rfl, hb⟩
    exact ⟨_, _, rfl, .inr ⟨h, _, _, rfl⟩, hb⟩
theorem prText_e (b : Br) (w : World) (hV : Vars w) :
    Calls Tryd.prog 34 #[.agg b.vals.toArray] w fun e w' => ∃ (tx : List UInt8) (ev : Value), e = .returned (.tuple #[.string ⟨tx.toArray⟩, ev]) ∧ ((b.okB = true ∧ tx = b.text ∧ ev = .nilIface) ∨ (b.okB = false ∧ Bad ev)) ∧ Below w.heap.size w w' := by
  refine (prText_any b w hV).mono ?_
  rintro e w' ⟨rfl, hb⟩
  unfold txV
  cases h : b.okB
  · exact ⟨[], _, rfl, .inr ⟨rfl, _, _, rfl⟩, hb⟩
  · exact ⟨_, _, rfl, .inl ⟨rfl, rfl, rfl⟩, hb⟩
theorem ofText_eq (s : List UInt8) : Br.ofText s = match Ad.ofText (Lib.cut s [47]).2.1, Lib.atoiAll (Lib.cut (Lib.cut s [47]).1 [46]).1, Lib.atoiAll (Lib.cut (Lib.cut s [47]).1 [46]).2.1 with
    | some ad, .ok p, .ok e => if (Br.mk p e ad).okB = true ∧ (Br.mk p e ad).text = s then some ⟨p, e, ad⟩ else none
    | _, _, _ => none := rfl
@[reducible] def zBrd : List Value := [.int .i64 0, .int .i64 0, .int .u8 0, .int .u8 0, .int .u8 0, .int .u8 0, .int .u8 0, .int .u8 0]
set_option maxRecDepth 100000 in
set_option maxHeartbeats 4000000 in
theorem prParse_any (s : List UInt8) (hs : s.length ≤ 1000000) (w : World) (hV : Vars w) :
    Calls Tryd.prog 35 #[.string ⟨s.toArray⟩] w fun e w' => e = .returned (brV (Br.ofText s)) ∧ Below w.heap.size w w' := by
  have H0 := Lib.hid ((St.init w).alloc zBrd 53)
  have HV := Lib.hid (hV.ext H0.out.below)
  have hl := cut_len s 47
  have HC := fun W h => Lib.hid (cut_v s 47 hs W h)
  have hO := ofText_eq s
  generalize Br.ofText s = O at *
  generalize (Lib.cut s [47]).1 = h at *
  generalize (Lib.cut s [47]).2.1 = a at *
  generalize (Lib.cut s [47]).2.2 = ok at *
  obtain ⟨hl1, hl2⟩ := hl
  have hl1 : h.length ≤ 1000000 := by omega
  have hl2 : a.length ≤ 1000000 := by omega
  have hk := cut_len h 46
  have HD := fun W hm => Lib.hid (cut_v h 46 hl1 W hm)
  generalize (Lib.cut h [46]).1 = p at *
  generalize (Lib.cut h [46]).2.1 = x at *
  generalize (Lib.cut h [46]).2.2 = ok2 at *
  obtain ⟨hk1, hk2⟩ := hk
  have hk1 : p.length ≤ 1000000 := by omega
  have hk2 : x.length ≤ 1000000 := by omega
  have HP := fun W hm => Lib.hid (parse_e a hl2 W hm)
  have HA := fun W hm => Lib.hid (atoi_e p hk1 W hm)
  have HB := fun W hm => Lib.hid (atoi_e x hk2 W hm)
  have HO := Lib.hid hO
  clear hs hV hl1 hl2 hk1 hk2 hO
  go_enter Tryd.func35, Tryd.ntmps35
  go_upto_region 1 with (fail)
  generalize World.alloc _ _ = w1 at *
  go_upto_region 4 with (first
    | ((with_reducible refine (HC w1 HV.out.m).out.mono ?_)
       rintro e w2 ⟨rfl, hb2⟩
       have H2 := Lib.hid (H0.out.ext hb2)
       have V2 := Lib.hid (HV.out.ext hb2)
       clear hb2)
    | ((with_reducible refine (HD w2 V2.out.m).out.mono ?_)
       rintro e w3 ⟨rfl, hb3⟩
       have H3 := Lib.hid (H2.out.ext hb3)
       have V3 := Lib.hid (V2.out.ext hb3)
       clear hb3)
    | ((with_reducible refine (HP w3 V3.out.m).out.mono ?_)
       rintro e w4 ⟨ad, ev1, rfl, E1, hb4⟩
       have H4 := Lib.hid (H3.out.ext hb4)
       have V4 := Lib.hid (V3.out.ext hb4)
       clear hb4)
    | (with_reducible refine wpList_store_blk (ty := 23) (o := 0) _ ad.vals (by with_unfolding_all rfl) (by with_unfolding_all rfl) (Blk.new w4 zAd 23) (by with_unfolding_all exact Nat.le_refl _) (by with_unfolding_all exact info23) (Ad.one _) (fun W5 hBW5 hoW5 => ?_)))
  have H5 := Lib.hid ((H4.out.alloc zAd 23).sets (L' := ad.vals) hBW5 hoW5)
  have V5 : Hid (Vars W5) := Lib.hid (V4.out.ext (Only.fresh hoW5).1)
  have E1 := Lib.hid E1
  clear hBW5 hoW5
  generalize w4.heap.size = g4 at *
  go_upto_region 6 with (first
    | ((with_reducible refine (HA W5 V5.out).out.mono ?_)
       rintro e w6 ⟨n1, ev2, rfl, E2, hb6⟩
       have H6 := Lib.hid (H5.out.ext hb6)
       have V6 := Lib.hid (V5.out.ext hb6)
       clear hb6)
    | ((with_reducible refine (HB w6 V6.out).out.mono ?_)
       rintro e w7 ⟨n2, ev3, rfl, E3, hb7⟩
       have H7 := Lib.hid (H6.out.ext hb7)
       have V7 := Lib.hid (V6.out.ext hb7)
       clear hb7))
  have E2 := Lib.hid E2
  have E3 := Lib.hid E3
  have R7 := Lib.hid (Blk.box (H7.out.at 0 rfl)).range
  have HBt := Lib.hid (br_built3 n1 n2 ad)
  obtain ⟨b, hb⟩ : ∃ b, Br.mk n1 n2 ad = b := ⟨_, rfl⟩
  have HBn := Lib.hid hb
  rw [hb] at HBt
  clear hb
  go_upto_region 7 with (first
    | (with_reducible refine wpList_load_rng (ty := 23) ad.vals (by with_unfolding_all rfl) R7.out Tryd.underlying23 (by with_unfolding_all rfl) (by with_unfolding_all exact info23) ?_)
    | (with_reducible refine wpList_buildA (t := 53) [(0, .int .i64 n1), (1, .int .i64 n2), (2, .agg ad.vals.toArray)] b.vals (by with_unfolding_all rfl) HBt.out ?_)
    | (with_reducible refine wpList_store_blk (ty := 53) (o := 0) _ b.vals (by with_unfolding_all rfl) (by with_unfolding_all rfl) (Blk.new w7 zBrd 53) (by with_unfolding_all exact Nat.le_refl _) (by with_unfolding_all exact info53) (Br.one _) (fun W8 hBW8 hoW8 => ?_)))
  have H8 : Hid (St w.heap.size w W8 (bk w7.heap.size 53 b.vals :: bk g4 23 ad.vals :: bk w.heap.size 53 zBrd :: [])) := Lib.hid ((H7.out.alloc zBrd 53).sets (L' := b.vals) hBW8 hoW8)
  have V8 : Hid (Vars W8) := Lib.hid (V7.out.ext (Only.fresh hoW8).1)
  clear hBW8 hoW8 R7 HBt
  generalize w7.heap.size = g7 at *
  have R8 := Lib.hid (Blk.box (H8.out.at 0 rfl)).range
  have HT := Lib.hid (prText_e b W8 V8.out)
  go_upto_region 8 with (first
    | (with_reducible refine wpList_load_rng (ty := 53) b.vals (by with_unfolding_all rfl) R8.out Tryd.underlying53 (by with_unfolding_all rfl) (by with_unfolding_all exact info53) ?_)
    | ((with_reducible refine HT.out.mono ?_)
       rintro e w9 ⟨tx, ev4, rfl, E4, hb9⟩
       have H8 := Lib.hid (H8.out.ext hb9)
       clear hb9))
  have B9 := Lib.hid (H8.out.at 2 rfl)
  have R9 := Lib.hid (Blk.box (H8.out.at 0 rfl)).range
  clear R8 HT
  rcases E1.out with ⟨a1, rfl⟩ | ⟨a1, t1, u1, rfl⟩
  rotate_left
  · have hO : O = none := by rw [HO.out, a1]
    have HOn : Hid (O = none) := Lib.hid (hO)
    clear hO
    go_wp2_with (first
      | (with_reducible refine wpList_buildA (t := 53) [] Br.zero.vals (by with_unfolding_all rfl) br_built0 ?_)
      | (with_reducible refine wpList_store_blk (ty := 53) (o := 0) _ Br.zero.vals (by with_unfolding_all rfl) (by with_unfolding_all rfl) B9.out (by with_unfolding_all exact Nat.le_refl _) (by with_unfolding_all exact info53) (Br.one _) (fun W9 hBW9 hoW9 => ?_)))
    have h9 := (H8.out.pull 2 rfl).sets (L' := Br.zero.vals) hBW9 hoW9
    exact ret_cell2 (cs := Br.zero.vals) Tryd.results35 (by rfl) (by rfl) (Blk.box h9.head).range Tryd.underlying53 rfl info53 rfl ⟨by first | rfl | (rw [HOn.out]; rfl), h9.below⟩
  rcases E2.out with ⟨a2, rfl⟩ | ⟨a2, t1, u1, rfl⟩
  rotate_left
  · have hO : O = none := by
      rw [HO.out, a1]
      cases hq : Lib.atoiAll p with
      | ok v => exact absurd hq (a2 v)
      | _ => rfl
    have HOn : Hid (O = none) := Lib.hid (hO)
    clear hO
    go_wp2_with (first
      | (with_reducible refine wpList_buildA (t := 53) [] Br.zero.vals (by with_unfolding_all rfl) br_built0 ?_)
      | (with_reducible refine wpList_store_blk (ty := 53) (o := 0) _ Br.zero.vals (by with_unfolding_all rfl) (by with_unfolding_all rfl) B9.out (by with_unfolding_all exact Nat.le_refl _) (by with_unfolding_all exact info53) (Br.one _) (fun W9 hBW9 hoW9 => ?_)))
    have h9 := (H8.out.pull 2 rfl).sets (L' := Br.zero.vals) hBW9 hoW9
    exact ret_cell2 (cs := Br.zero.vals) Tryd.results35 (by rfl) (by rfl) (Blk.box h9.head).range Tryd.underlying53 rfl info53 rfl ⟨by first | rfl | (rw [HOn.out]; rfl), h9.below⟩
  rcases E3.out with ⟨a3, rfl⟩ | ⟨a3, t1, u1, rfl⟩
  rotate_left
  · have hO : O = none := by
      rw [HO.out, a1, a2]
      cases hq : Lib.atoiAll x with
      | ok v => exact absurd hq (a3 v)
      | _ => rfl
    have HOn : Hid (O = none) := Lib.hid (hO)
    clear hO
    go_wp2_with (first
      | (with_reducible refine wpList_buildA (t := 53) [] Br.zero.vals (by with_unfolding_all rfl) br_built0 ?_)
      | (with_reducible refine wpList_store_blk (ty := 53) (o := 0) _ Br.zero.vals (by with_unfolding_all rfl) (by with_unfolding_all rfl) B9.out (by with_unfolding_all exact Nat.le_refl _) (by with_unfolding_all exact info53) (Br.one _) (fun W9 hBW9 hoW9 => ?_)))
    have h9 := (H8.out.pull 2 rfl).sets (L' := Br.zero.vals) hBW9 hoW9
    exact ret_cell2 (cs := Br.zero.vals) Tryd.results35 (by rfl) (by rfl) (Blk.box h9.head).range Tryd.underlying53 rfl info53 rfl ⟨by first | rfl | (rw [HOn.out]; rfl), h9.below⟩
  have hO2 : O = if b.okB = true ∧ b.text = s then some b else none := by
    rw [HO.out, a1, a2, a3]
    show (if (Br.mk n1 n2 ad).okB = true ∧ (Br.mk n1 n2 ad).text = s then some (Br.mk n1 n2 ad) else none) = _
    rw [HBn.out]
  rcases E4 with ⟨a4, rfl, rfl⟩ | ⟨a4, t1, u1, rfl⟩
  rotate_left
  · have hO : O = none := by rw [hO2, if_neg (fun k => by rw [a4] at k; exact absurd k.1 (by decide))]
    clear hO2
    have HOn : Hid (O = none) := Lib.hid (hO)
    clear hO
    go_wp2_with (first
      | (with_reducible refine wpList_buildA (t := 53) [] Br.zero.vals (by with_unfolding_all rfl) br_built0 ?_)
      | (with_reducible refine wpList_store_blk (ty := 53) (o := 0) _ Br.zero.vals (by with_unfolding_all rfl) (by with_unfolding_all rfl) B9.out (by with_unfolding_all exact Nat.le_refl _) (by with_unfolding_all exact info53) (Br.one _) (fun W9 hBW9 hoW9 => ?_)))
    have h9 := (H8.out.pull 2 rfl).sets (L' := Br.zero.vals) hBW9 hoW9
    exact ret_cell2 (cs := Br.zero.vals) Tryd.results35 (by rfl) (by rfl) (Blk.box h9.head).range Tryd.underlying53 rfl info53 rfl ⟨by first | rfl | (rw [HOn.out]; rfl), h9.below⟩
  by_cases ht : b.text = s
  · have hO : O = some b := by rw [hO2, if_pos ⟨a4, ht⟩]
    have HOn := Lib.hid hO
    rw [ht]
    clear hO hO2 ht a1 a2 a3 a4
    go_wp2_with (first
      | (with_reducible refine wpList_load_rng (ty := 53) b.vals (by with_unfolding_all rfl) R9.out Tryd.underlying53 (by with_unfolding_all rfl) (by with_unfolding_all exact info53) ?_)
      | (with_reducible refine wpList_store_blk (ty := 53) (o := 0) _ b.vals (by with_unfolding_all rfl) (by with_unfolding_all rfl) B9.out (by with_unfolding_all exact Nat.le_refl _) (by with_unfolding_all exact info53) (Br.one _) (fun W9 hBW9 hoW9 => ?_)))
    have h9 := (H8.out.pull 2 rfl).sets (L' := b.vals) hBW9 hoW9
    exact ret_cell2 (cs := b.vals) Tryd.results35 (by rfl) (by rfl) (Blk.box h9.head).range Tryd.underlying53 rfl info53 rfl ⟨by first | rfl | (rw [HOn.out]; rfl), h9.below⟩
  · have hO : O = none := by rw [hO2, if_neg (fun k => ht k.2)]
    have hs2 : (b.text != s) = true := by simpa using ht
    have hs3 : (b.text == s) = false := by simpa using ht
    clear hO2 a1 a2 a3 a4
    generalize b.text = tx at *
    have HOn : Hid (O = none) := Lib.hid (hO)
    clear hO
    go_wp2_with (first
      | (with_reducible refine wpList_buildA (t := 53) [] Br.zero.vals (by with_unfolding_all rfl) br_built0 ?_)
      | (with_reducible refine wpList_store_blk (ty := 53) (o := 0) _ Br.zero.vals (by with_unfolding_all rfl) (by with_unfolding_all rfl) B9.out (by with_unfolding_all exact Nat.le_refl _) (by with_unfolding_all exact info53) (Br.one _) (fun W9 hBW9 hoW9 => ?_)))
    have h9 := (H8.out.pull 2 rfl).sets (L' := Br.zero.vals) hBW9 hoW9
    exact ret_cell2 (cs := Br.zero.vals) Tryd.results35 (by rfl) (by rfl) (Blk.box h9.head).range Tryd.underlying53 rfl info53 rfl ⟨by first | rfl | (rw [HOn.out]; rfl), h9.below⟩
end Go.Proofs.YtkicbabfgahmkaaDoor
namespace Go.Proofs.YtkicbabfgahmkaaDoor
open Go.RowKit
set_option maxRecDepth 100000 in
set_option maxHeartbeats 1000000 in
theorem prLess_any (a b : Br) (w : World) :
    Calls Tryd.prog 41 #[.agg a.vals.toArray, .agg b.vals.toArray] w fun e w' => e = .returned (.bool (brLess a b)) ∧ Below w.heap.size w w' := by
  have H0 := Lib.hid ((St.init w).alloc2 a.vals b.vals 53 53)
  have HO := Lib.hid (order_any a b)
  have hb : brLess a b = decide (lexI a.key b.key < 0) := rfl
  rw [hb]
  clear hb
  generalize lexI a.key b.key = z at *
  go_enter Tryd.func41, Tryd.ntmps41
  go_upto_region 1 with (fail)
  generalize World.alloc (World.alloc _ _) _ = w1 at *
  have RB := Lib.hid (Blk.box (H0.out.at 0 rfl)).range
  have RA := Lib.hid (Blk.box (H0.out.at 1 rfl)).range
  go_wp2_with (first
    | (with_reducible refine wpList_load_rng (ty := 53) a.vals (by with_unfolding_all rfl) RA.out Tryd.underlying53 (by with_unfolding_all rfl) (by with_unfolding_all exact info53) ?_)
    | (with_reducible refine wpList_load_rng (ty := 53) b.vals (by with_unfolding_all rfl) RB.out Tryd.underlying53 (by with_unfolding_all rfl) (by with_unfolding_all exact info53) ?_)
    | ((with_reducible refine (HO.out _).mono ?_)
       rintro e w2 ⟨rfl, hb2⟩
       have H2 := Lib.hid (H0.out.ext hb2)
       clear hb2))
  go_ret
  exact ⟨rfl, H2.out.below⟩
theorem dec_one (n : Nat) (h : n < 10) : Lib.decDigits n = [UInt8.ofNat (48 + n)] := by rw [Lib.decDigits, dif_pos h]
theorem dec_step (n : Nat) (h : 10 ≤ n) : Lib.decDigits n = Lib.decDigits (n / 10) ++ [UInt8.ofNat (48 + n % 10)] := by rw [Lib.decDigits, dif_neg (by omega)]
theorem dec32768 : Lib.decDigits 32768 = [51, 50, 55, 54, 56] := by
  rw [dec_step 32768 (by decide), show 32768 / 10 = 3276 from rfl, dec_step 3276 (by decide), show 3276 / 10 = 327 from rfl, dec_step 327 (by decide), show 327 / 10 = 32 from rfl, dec_step 32 (by decide), show 32 / 10 = 3 from rfl, dec_one 3 (by decide)]
  rfl
def nb : Br := ⟨32768, 5, ⟨0, 1, 0, 0, 0, 0⟩⟩
theorem nb_ok : nb.okB = true := by decide
theorem nb_text : nb.text = [51, 50, 55, 54, 56, 46, 53, 47, 48, 48, 58, 48, 49, 58, 48, 48, 58, 48, 48, 58, 48, 48, 58, 48, 48] := by
  show Lib.decDigits 32768 ++ 46 :: (Lib.decDigits 5 ++ 47 :: Ad.text ⟨0, 1, 0, 0, 0, 0⟩) = _
  rw [dec32768, dec_one 5 (by decide)]
  rfl
theorem nb_bytes : nb.bytes = [128, 5, 0, 1, 0, 0, 0, 0] := by decide +kernel
theorem nb_less : brLess Br.zero nb = true := by decide +kernel
set_option maxRecDepth 100000 in
set_option maxHeartbeats 4000000 in
theorem named_any (w : World) (hV : Vars w) :
    Calls Tryd.prog 29 #[] w fun e w' => e = .returned (.bool true) ∧ Below w.heap.size w w' := by
  have hK := pack_ok nb nb_ok
  rw [nb_bytes] at hK
  have HK : Hid (∀ W, Calls Tryd.prog 32 #[.agg nb.vals.toArray] W fun e w' => e = .returned (.tuple #[.string ⟨#[128, 5, 0, 1, 0, 0, 0, 0]⟩, .nilIface]) ∧ Below W.heap.size W w') := Lib.hid hK
  have HT : Hid (∀ W, Vars W → Calls Tryd.prog 34 #[.agg nb.vals.toArray] W fun e w' => e = .returned (.tuple #[.string ⟨#[51, 50, 55, 54, 56, 46, 53, 47, 48, 48, 58, 48, 49, 58, 48, 48, 58, 48, 48, 58, 48, 48, 58, 48, 48]⟩, .nilIface]) ∧ Below W.heap.size W w') := Lib.hid (fun W h => by
    have := prText_any nb W h
    unfold txV at this
    rw [nb_ok, if_pos rfl, nb_text] at this
    exact this)
  have HP : Hid (∀ W, Vars W → Calls Tryd.prog 35 #[.string ⟨#[51, 50, 55, 54, 56, 46, 53, 47, 48, 48, 58, 48, 49, 58, 48, 48, 58, 48, 48, 58, 48, 48, 58, 48, 48]⟩] W fun e w' => e = .returned (.tuple #[.agg nb.vals.toArray, .nilIface]) ∧ Below W.heap.size W w') := Lib.hid (fun W h => by
    have := prParse_any nb.text (by rw [nb_text]; decide) W h
    rw [br_ofText nb_ok] at this
    rw [nb_text] at this
    exact this)
  have HL : Hid (∀ W, Calls Tryd.prog 41 #[.agg #[.int .i64 0, .int .i64 0, .int .u8 0, .int .u8 0, .int .u8 0, .int .u8 0, .int .u8 0, .int .u8 0], .agg #[.int .i64 32768, .int .i64 5, .int .u8 0, .int .u8 1, .int .u8 0, .int .u8 0, .int .u8 0, .int .u8 0]] W fun e w' => e = .returned (.bool true) ∧ Below W.heap.size W w') := Lib.hid (fun W => by
    have := prLess_any Br.zero nb W
    rw [nb_less] at this
    exact this)
  have HE : ∀ W, (binOp .eql 53 (.agg #[.int .i64 32768, .int .i64 5, .int .u8 0, .int .u8 1, .int .u8 0, .int .u8 0, .int .u8 0, .int .u8 0]) (.agg #[.int .i64 32768, .int .i64 5, .int .u8 0, .int .u8 1, .int .u8 0, .int .u8 0, .int .u8 0, .int .u8 0])).run Tryd.prog W = .ok (.bool true) W := fun W => by
    have := br_eq nb nb W
    rw [decide_eq_true rfl] at this
    exact this
  have HG : ∀ p q W, (eqGuard .eql 53 p q (.agg #[.int .i64 32768, .int .i64 5, .int .u8 0, .int .u8 1, .int .u8 0, .int .u8 0, .int .u8 0, .int .u8 0]) (.agg #[.int .i64 32768, .int .i64 5, .int .u8 0, .int .u8 1, .int .u8 0, .int .u8 0, .int .u8 0, .int .u8 0])).run Tryd.prog W = .ok () W := fun p q W => br_guard .eql nb nb p q W
  have ab : Tryd.prog.built 23 [(0, .int .u8 0), (1, .int .u8 1)] = some (Ad.vals ⟨0, 1, 0, 0, 0, 0⟩).toArray := by kernel_rfl
  have bb : Tryd.prog.built 53 [(0, .int .i64 32768), (1, .int .i64 5), (2, .agg (Ad.vals ⟨0, 1, 0, 0, 0, 0⟩).toArray)] = some nb.vals.toArray := by kernel_rfl
  have HV := Lib.hid hV
  clear hK hV
  go_enter Tryd.func29, Tryd.ntmps29
  go_upto_region 2 with (first
    | (with_reducible refine wpList_buildA (t := 23) [(0, .int .u8 0), (1, .int .u8 1)] (Ad.vals ⟨0, 1, 0, 0, 0, 0⟩) (by with_unfolding_all rfl) ab ?_)
    | (with_reducible refine wpList_buildA (t := 53) [(0, .int .i64 32768), (1, .int .i64 5), (2, .agg (Ad.vals ⟨0, 1, 0, 0, 0, 0⟩).toArray)] nb.vals (by with_unfolding_all rfl) bb ?_)
    | (with_reducible refine wpList_store_blk (ty := 53) (o := 0) _ nb.vals (by with_unfolding_all rfl) (by with_unfolding_all rfl) (Blk.new w zBrd 53) (by with_unfolding_all exact Nat.le_refl _) (by with_unfolding_all exact info53) (Br.one _) (fun W1 hBW1 hoW1 => ?_)))
  have H1 : Hid (St w.heap.size w W1 (bk w.heap.size 53 nb.vals :: [])) := Lib.hid (((St.init w).alloc zBrd 53).sets (L' := nb.vals) hBW1 hoW1)
  have V1 : Hid (Vars W1) := Lib.hid (HV.out.ext (Only.fresh hoW1).1)
  clear hBW1 hoW1 ab bb
  have R1 := Lib.hid (Blk.box (H1.out.at 0 rfl)).range
  go_upto_region 3 with (first
    | (with_reducible refine wpList_load_rng (ty := 53) nb.vals (by with_unfolding_all rfl) R1.out Tryd.underlying53 (by with_unfolding_all rfl) (by with_unfolding_all exact info53) ?_)
    | ((with_reducible refine (HK.out _).mono ?_)
       rintro e w2 ⟨rfl, hb2⟩
       have H2 := Lib.hid (H1.out.ext hb2)
       have V2 := Lib.hid (V1.out.ext hb2)
       clear hb2))
  have R2 := Lib.hid (Blk.box (H2.out.at 0 rfl)).range
  go_upto_region 5 with (first
    | (with_reducible refine wpList_load_rng (ty := 53) nb.vals (by with_unfolding_all rfl) R2.out Tryd.underlying53 (by with_unfolding_all rfl) (by with_unfolding_all exact info53) ?_)
    | ((with_reducible refine (HT.out w2 V2.out).mono ?_)
       rintro e w3 ⟨rfl, hb3⟩
       have H3 := Lib.hid (H2.out.ext hb3)
       have V3 := Lib.hid (V2.out.ext hb3)
       clear hb3)
    | ((with_reducible refine (HP.out w3 V3.out).mono ?_)
       rintro e w4 ⟨rfl, hb4⟩
       have H4 := Lib.hid (H3.out.ext hb4)
       clear hb4)
    | (with_reducible refine wpList_store_blk (ty := 53) (o := 0) _ nb.vals (by with_unfolding_all rfl) (by with_unfolding_all rfl) (Blk.new w4 zBrd 53) (by with_unfolding_all exact Nat.le_refl _) (by with_unfolding_all exact info53) (Br.one _) (fun W5 hBW5 hoW5 => ?_)))
  have H5 : Hid (St w.heap.size w W5 (bk w4.heap.size 53 nb.vals :: bk w.heap.size 53 nb.vals :: [])) := Lib.hid ((H4.out.alloc zBrd 53).sets (L' := nb.vals) hBW5 hoW5)
  clear hBW5 hoW5 R1 R2
  generalize w4.heap.size = g4 at *
  have c0 : W5.cell? ⟨g4, 0, none⟩ = some (.int .i64 32768) := (Blk.box (H5.out.at 0 rfl)).cell 0
  have c1 : W5.cell? ⟨g4, 1, none⟩ = some (.int .i64 5) := (Blk.box (H5.out.at 0 rfl)).cell 1
  have c2 : W5.cell? ⟨g4, 2, none⟩ = some (.int .u8 0) := (Blk.box (H5.out.at 0 rfl)).cell 2
  have c3 : W5.cell? ⟨g4, 3, none⟩ = some (.int .u8 1) := (Blk.box (H5.out.at 0 rfl)).cell 3
  have c4 : W5.cell? ⟨g4, 4, none⟩ = some (.int .u8 0) := (Blk.box (H5.out.at 0 rfl)).cell 4
  have c5 : W5.cell? ⟨g4, 5, none⟩ = some (.int .u8 0) := (Blk.box (H5.out.at 0 rfl)).cell 5
  have c6 : W5.cell? ⟨g4, 6, none⟩ = some (.int .u8 0) := (Blk.box (H5.out.at 0 rfl)).cell 6
  have c7 : W5.cell? ⟨g4, 7, none⟩ = some (.int .u8 0) := (Blk.box (H5.out.at 0 rfl)).cell 7
  have d0 : W5.cell? ⟨w.heap.size, 0, none⟩ = some (.int .i64 32768) := (Blk.box (H5.out.at 1 rfl)).cell 0
  have d1 : W5.cell? ⟨w.heap.size, 1, none⟩ = some (.int .i64 5) := (Blk.box (H5.out.at 1 rfl)).cell 1
  have d2 : W5.cell? ⟨w.heap.size, 2, none⟩ = some (.int .u8 0) := (Blk.box (H5.out.at 1 rfl)).cell 2
  have d3 : W5.cell? ⟨w.heap.size, 3, none⟩ = some (.int .u8 1) := (Blk.box (H5.out.at 1 rfl)).cell 3
  have d4 : W5.cell? ⟨w.heap.size, 4, none⟩ = some (.int .u8 0) := (Blk.box (H5.out.at 1 rfl)).cell 4
  have d5 : W5.cell? ⟨w.heap.size, 5, none⟩ = some (.int .u8 0) := (Blk.box (H5.out.at 1 rfl)).cell 5
  have d6 : W5.cell? ⟨w.heap.size, 6, none⟩ = some (.int .u8 0) := (Blk.box (H5.out.at 1 rfl)).cell 6
  have d7 : W5.cell? ⟨w.heap.size, 7, none⟩ = some (.int .u8 0) := (Blk.box (H5.out.at 1 rfl)).cell 7
  go_wp2_with (first
    | ((with_reducible refine (HL.out _).mono ?_)
       rintro e w6 ⟨rfl, hb6⟩
       have H6 := Lib.hid (H5.out.ext hb6)
       clear hb6))
  go_ret
  exact ⟨rfl, H6.out.below⟩
end Go.Proofs.YtkicbabfgahmkaaDoor

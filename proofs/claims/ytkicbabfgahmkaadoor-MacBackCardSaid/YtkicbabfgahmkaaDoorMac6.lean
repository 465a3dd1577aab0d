/- The law MacBack. -/
import Derived.Test.YtkicbabfgahmkaaDoorMac4
import Derived.Test.YtkicbabfgahmkaaDoorOpAd
set_option linter.all false
namespace Go.Proofs.YtkicbabfgahmkaaDoor
open Go.RowKit
set_option maxRecDepth 100000 in
set_option maxHeartbeats 4000000 in
theorem law_MacBack (v0 : Value) (a : Ad) (s : List UInt8) (hs : s.length ≤ 9223372036854775807) (w : World) (hv0 : v0 = .agg a.vals.toArray) (hM : MaxL w) :
    Calls Tryd.prog 3 #[v0, .string ⟨s.toArray⟩] w fun e w' => e = .returned (.bool true) ∧ Below w.heap.size w w' := by
  subst hv0
  have H0 := Lib.hid ((St.init w).alloc a.vals 23)
  have HA := Lib.hid (addressed_any _ (hM.ext H0.out.below))
  have HM := Lib.hid (hM.ext H0.out.below)
  have HT := Lib.hid (mtext_any a)
  have HP : Hid (∀ W, MaxL W → Calls Tryd.prog 15 #[.string ⟨a.text.toArray⟩] W fun e w' => e = .returned (.tuple #[.agg a.vals.toArray, .nilIface]) ∧ Below W.heap.size W w') := Lib.hid (fun W h => by
    have := mparse_any a.text (by rw [a.text_len]; omega) W h
    rwa [ofText_text] at this)
  have hl17 : a.text.length = 17 := a.text_len
  have HN : ∀ W, (binOp .neq 23 (.agg a.vals.toArray) (.agg a.vals.toArray)).run Tryd.prog W = .ok (.bool false) W := fun W => by rw [ad_neq]; simp
  have HE := fun p q W => ad_guard .neq a a p q W
  have Hq : Hid (∀ W, s.length ≤ 100 → MaxL W → Calls Tryd.prog 15 #[.string ⟨s.toArray⟩] W fun e w' => e = .returned (adV (Ad.ofText s)) ∧ Below W.heap.size W w') := Lib.hid (fun W hl h => mparse_any s (by omega) W h)
  have Hb : Hid (∀ b, Ad.ofText s = some b → b.text = s) := Lib.hid (fun b h => text_ofText h)
  generalize a.text = at_ at *
  have Hs := Lib.hid hs
  clear hs hM
  go_enter Tryd.func3, Tryd.ntmps3
  go_upto_region 1 with (fail)
  generalize World.alloc _ _ = w1 at *
  go_upto_region 3 with (first
    | ((with_reducible refine HA.out.mono ?_)
       rintro e w2 ⟨rfl, hb2⟩
       have H2 := Lib.hid (H0.out.ext hb2)
       have M2 := Lib.hid (HM.out.ext hb2)
       have R2 := Lib.hid (Blk.box (H2.out.at 0 rfl)).range
       clear hb2 HM))
  go_upto_region 4 with (first
    | (with_reducible refine wpList_load_rng (ty := 23) a.vals (by with_unfolding_all rfl) R2.out Tryd.underlying23 (by with_unfolding_all rfl) (by with_unfolding_all exact info23) ?_)
    | ((with_reducible refine (HT.out w2).mono ?_)
       rintro e w3 ⟨rfl, hb3⟩
       have H3 := Lib.hid (H2.out.ext hb3)
       have M3 := Lib.hid (M2.out.ext hb3)
       clear hb3 M2)
    | ((with_reducible refine (HP.out w3 M3.out).mono ?_)
       rintro e w4 ⟨rfl, hb4⟩
       have H4 := Lib.hid (H3.out.ext hb4)
       have M4 := Lib.hid (M3.out.ext hb4)
       clear hb4 M3)
    | (with_reducible refine wpList_store_blk (ty := 23) (o := 0) _ a.vals (by with_unfolding_all rfl) (by with_unfolding_all rfl) (Blk.new w4 zAd 23) (by with_unfolding_all exact Nat.le_refl _) (by with_unfolding_all exact info23) (Ad.one _) (fun W5 hBW5 hoW5 => ?_)))
  have H5 : Hid (St w.heap.size w W5 (bk w4.heap.size 23 a.vals :: bk w.heap.size 23 a.vals :: [])) := Lib.hid ((H4.out.alloc zAd 23).sets (L' := a.vals) hBW5 hoW5)
  have M5 : Hid (MaxL W5) := Lib.hid (M4.out.ext (Only.fresh hoW5).1)
  clear hBW5 hoW5 M4
  generalize w4.heap.size = g at *
  have p0 : W5.cell? ⟨g, 0, none⟩ = some (.int .u8 a.a.toNat) := (Blk.box (H5.out.at 0 rfl)).cell 0
  have p1 : W5.cell? ⟨g, 1, none⟩ = some (.int .u8 a.b.toNat) := (Blk.box (H5.out.at 0 rfl)).cell 1
  have p2 : W5.cell? ⟨g, 2, none⟩ = some (.int .u8 a.c.toNat) := (Blk.box (H5.out.at 0 rfl)).cell 2
  have p3 : W5.cell? ⟨g, 3, none⟩ = some (.int .u8 a.d.toNat) := (Blk.box (H5.out.at 0 rfl)).cell 3
  have p4 : W5.cell? ⟨g, 4, none⟩ = some (.int .u8 a.e.toNat) := (Blk.box (H5.out.at 0 rfl)).cell 4
  have p5 : W5.cell? ⟨g, 5, none⟩ = some (.int .u8 a.f.toNat) := (Blk.box (H5.out.at 0 rfl)).cell 5
  have q0 : W5.cell? ⟨w.heap.size, 0, none⟩ = some (.int .u8 a.a.toNat) := (Blk.box (H5.out.at 1 rfl)).cell 0
  have q1 : W5.cell? ⟨w.heap.size, 1, none⟩ = some (.int .u8 a.b.toNat) := (Blk.box (H5.out.at 1 rfl)).cell 1
  have q2 : W5.cell? ⟨w.heap.size, 2, none⟩ = some (.int .u8 a.c.toNat) := (Blk.box (H5.out.at 1 rfl)).cell 2
  have q3 : W5.cell? ⟨w.heap.size, 3, none⟩ = some (.int .u8 a.d.toNat) := (Blk.box (H5.out.at 1 rfl)).cell 3
  have q4 : W5.cell? ⟨w.heap.size, 4, none⟩ = some (.int .u8 a.e.toNat) := (Blk.box (H5.out.at 1 rfl)).cell 4
  have q5 : W5.cell? ⟨w.heap.size, 5, none⟩ = some (.int .u8 a.f.toNat) := (Blk.box (H5.out.at 1 rfl)).cell 5
  have HN1 : ∀ W, (binOp .neq 23 (.agg #[.int .u8 a.a.toNat, .int .u8 a.b.toNat, .int .u8 a.c.toNat, .int .u8 a.d.toNat, .int .u8 a.e.toNat, .int .u8 a.f.toNat]) (.agg #[.int .u8 a.a.toNat, .int .u8 a.b.toNat, .int .u8 a.c.toNat, .int .u8 a.d.toNat, .int .u8 a.e.toNat, .int .u8 a.f.toNat])).run Tryd.prog W = .ok (.bool false) W := HN
  have HE1 : ∀ p q W, (eqGuard .neq 23 p q (.agg #[.int .u8 a.a.toNat, .int .u8 a.b.toNat, .int .u8 a.c.toNat, .int .u8 a.d.toNat, .int .u8 a.e.toNat, .int .u8 a.f.toNat]) (.agg #[.int .u8 a.a.toNat, .int .u8 a.b.toNat, .int .u8 a.c.toNat, .int .u8 a.d.toNat, .int .u8 a.e.toNat, .int .u8 a.f.toNat])).run Tryd.prog W = .ok () W := HE
  have HT1 : Hid (∀ W, Calls Tryd.prog 16 #[.agg #[.int .u8 a.a.toNat, .int .u8 a.b.toNat, .int .u8 a.c.toNat, .int .u8 a.d.toNat, .int .u8 a.e.toNat, .int .u8 a.f.toNat]] W fun e w' => e = .returned (.string ⟨at_.toArray⟩) ∧ Below W.heap.size W w') := HT
  clear HN HE
  go_upto_region 6 with (first
    | ((with_reducible refine (HT1.out _).mono ?_)
       rintro e w6 ⟨rfl, hb6⟩
       have H6 := Lib.hid (H5.out.ext hb6)
       have M6 := Lib.hid (M5.out.ext hb6)
       clear hb6 M5))
  clear HN1 HE1 p0 p1 p2 p3 p4 p5 q0 q1 q2 q3 q4 q5 hl17 HT HP HA
  by_cases hl : 100 < s.length
  · have hl2 : (100 : Int) < (s.length : Int) := by omega
    go_wp2_with fail
    go_ret
    exact ⟨rfl, H6.out.below⟩
  have hq := Lib.hid (Hq.out w6 (by omega) M6.out)
  have hl2 : ¬ (100 : Int) < (s.length : Int) := by omega
  have Hl := Lib.hid hl
  clear hl Hq
  cases hO : Ad.ofText s with
  | none =>
    have hq2 : Hid (Calls Tryd.prog 15 #[.string ⟨s.toArray⟩] w6 fun e w' => e = .returned (.tuple #[.agg Ad.zero.vals.toArray, .iface 80 (.int .i64 3)]) ∧ Below w6.heap.size w6 w') := by
      rw [hO] at hq; exact hq
    clear hO hq Hb
    go_wp2_with (first
      | ((with_reducible refine hq2.out.mono ?_)
         rintro e w7 ⟨rfl, hb7⟩
         have H7 := Lib.hid (H6.out.ext hb7)
         clear hb7)
      | (with_reducible refine wpList_store_blk (ty := 23) (o := 0) _ Ad.zero.vals (by with_unfolding_all rfl) (by with_unfolding_all rfl) (Blk.new w7 zAd 23) (by with_unfolding_all exact Nat.le_refl _) (by with_unfolding_all exact info23) (Ad.one _) (fun W8 hBW8 hoW8 => ?_)))
    have H8 := (H7.out.alloc zAd 23).sets (L' := Ad.zero.vals) hBW8 hoW8
    go_ret
    exact ⟨rfl, H8.below⟩
  | some b =>
    have hbt := Hb.out b hO
    have hq2 : Hid (Calls Tryd.prog 15 #[.string ⟨s.toArray⟩] w6 fun e w' => e = .returned (.tuple #[.agg b.vals.toArray, .nilIface]) ∧ Below w6.heap.size w6 w') := by
      rw [hO] at hq; exact hq
    have HT2 : Hid (∀ W, Calls Tryd.prog 16 #[.agg #[.int .u8 b.a.toNat, .int .u8 b.b.toNat, .int .u8 b.c.toNat, .int .u8 b.d.toNat, .int .u8 b.e.toNat, .int .u8 b.f.toNat]] W fun e w' => e = .returned (.string ⟨s.toArray⟩) ∧ Below W.heap.size W w') := Lib.hid (fun W => by
      have := mtext_any b W
      rw [hbt] at this
      exact this)
    clear hO hq Hb hbt
    go_upto_region 9 with (first
      | ((with_reducible refine hq2.out.mono ?_)
         rintro e w7 ⟨rfl, hb7⟩
         have H7 := Lib.hid (H6.out.ext hb7)
         clear hb7)
      | (with_reducible refine wpList_store_blk (ty := 23) (o := 0) _ b.vals (by with_unfolding_all rfl) (by with_unfolding_all rfl) (Blk.new w7 zAd 23) (by with_unfolding_all exact Nat.le_refl _) (by with_unfolding_all exact info23) (Ad.one _) (fun W8 hBW8 hoW8 => ?_)))
    have H8 : Hid (St w.heap.size w W8 _) := Lib.hid ((H7.out.alloc zAd 23).sets (L' := b.vals) hBW8 hoW8)
    clear hBW8 hoW8
    have p0 : W8.cell? ⟨w7.heap.size, 0, none⟩ = some (.int .u8 b.a.toNat) := (Blk.box (H8.out.at 0 rfl)).cell 0
    have p1 : W8.cell? ⟨w7.heap.size, 1, none⟩ = some (.int .u8 b.b.toNat) := (Blk.box (H8.out.at 0 rfl)).cell 1
    have p2 : W8.cell? ⟨w7.heap.size, 2, none⟩ = some (.int .u8 b.c.toNat) := (Blk.box (H8.out.at 0 rfl)).cell 2
    have p3 : W8.cell? ⟨w7.heap.size, 3, none⟩ = some (.int .u8 b.d.toNat) := (Blk.box (H8.out.at 0 rfl)).cell 3
    have p4 : W8.cell? ⟨w7.heap.size, 4, none⟩ = some (.int .u8 b.e.toNat) := (Blk.box (H8.out.at 0 rfl)).cell 4
    have p5 : W8.cell? ⟨w7.heap.size, 5, none⟩ = some (.int .u8 b.f.toNat) := (Blk.box (H8.out.at 0 rfl)).cell 5
    go_wp2_with (first
      | ((with_reducible refine (HT2.out _).mono ?_)
         rintro e w9 ⟨rfl, hb9⟩
         have H9 := Lib.hid (H8.out.ext hb9)
         clear hb9))
    go_ret
    exact ⟨rfl, H9.out.below⟩
end Go.Proofs.YtkicbabfgahmkaaDoor

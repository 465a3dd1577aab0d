/- The laws MvrpBack, MvrpStill. -/
import Derived.Test.YtjekdodboihfhaaDoorMv10
import Derived.Test.YtjekdodboihfhaaDoorOpAv
set_option linter.all false
namespace Go.Proofs.YtjekdodboihfhaaDoor
open Go.RowKit
def ex0 : Av := ⟨false, 10, [1, 2, 3, 4]⟩
theorem ex0_ok : ex0.okB = true := by decide
theorem ex0_bytes : mvBytes [ex0] = [0, 1, 2, 0, 4, 0, 10, 51, 144, 0, 0, 0, 0] := by decide
set_option maxRecDepth 100000 in
theorem mvWrite_more (n : Nat) (h40 : 40 < n) (A : Option Addr) (cap : Nat) (w : World) : ∃ t v, Calls Tryd.prog 7 #[.slice A n cap] w fun e w' => e = .returned (.tuple #[.string ⟨#[]⟩, .iface t v]) ∧ Below w.heap.size w w' := by
  refine ⟨32, .int .i64 4, ?_⟩
  have h40i : (40 : Int) < (n : Int) := by omega
  refine (callsIn_wide (n := 3)).1 ?_
  refine callsIn_of_wp_marks Tryd.func7 rfl trivial ?_ rfl
  refine wpIn_wide.2 ?_
  simp only [Tryd.ntmps7, List.size_toArray, List.length_cons, List.length_nil, Nat.reduceAdd, Nat.reduceSub, Array.replicate_succ, Array.replicate_zero, List.push_toArray, List.append_toArray, List.nil_append, List.cons_append]
  go_wp2_with fail
  refine left_leaves [] _ trivial (fun w' hb' => ⟨.tuple #[.string ⟨#[]⟩, .iface 32 (.int .i64 4)], by simp [results, Tryd.results7, go_sem], rfl, hb'⟩)
theorem mvWrite_ok (R : List ARow) (n : Nat) (hn : R.length = n) (A : Option Addr) (cap : Nat) (w : World) (h40 : n ≤ 40) (h : AvsAt w R A) (hok : ∀ a ∈ R.map ARow.a, a.okB = true) :
    Calls Tryd.prog 7 #[.slice A n cap] w fun e w' => e = .returned (.tuple #[.string ⟨(mvBytes (R.map ARow.a)).toArray⟩, .nilIface]) ∧ Below w.heap.size w w' := by
  have hok' : ∀ r ∈ R, r.a.okB = true := fun r hr => hok r.a (List.mem_map.2 ⟨r, hr, rfl⟩)
  refine (mvWrite_any R A cap n w hn h40 h.row h.evs (fun r hr => ?_)).mono ?_
  · obtain ⟨_, _, _, h4, _⟩ := Av.ok_iff.1 (hok' r hr)
    omega
  · rintro e w' ⟨h1, _, h3⟩
    exact ⟨h1 hok', h3⟩
set_option maxRecDepth 100000 in
set_option maxHeartbeats 4000000 in
theorem wanted_any (w : World) : Calls Tryd.prog 5 #[] w fun e w' => e = .returned (.bool true) ∧ Below w.heap.size w w' := by
  have H0 := Lib.hid (((St.init w).alloc [.int .i64 1, .int .i64 2, .int .i64 3, .int .i64 4] 3).alloc [.bool false, .int .i64 10, .slice (some ⟨w.heap.size, 0, none⟩) 4 4] 38)
  go_enter Tryd.func5, Tryd.ntmps5
  go_upto_region 2 with (fail)
  obtain ⟨w2, hw2⟩ : ∃ W, (w.alloc (.cells #[.int .i64 1, .int .i64 2, .int .i64 3, .int .i64 4] 3)).alloc (.cells #[.bool false, .int .i64 10, .slice (some ⟨w.heap.size, 0, none⟩) 4 4] 38) = W := ⟨_, rfl⟩
  have hz : (w.alloc (.cells #[.int .i64 1, .int .i64 2, .int .i64 3, .int .i64 4] 3)).heap.size = w.heap.size + 1 := by simp
  rw [hz] at H0
  have H2 : Hid (St w.heap.size w w2 (bk (w.heap.size + 1) 38 [.bool false, .int .i64 10, .slice (some ⟨w.heap.size, 0, none⟩) 4 4] :: bk w.heap.size 3 [.int .i64 1, .int .i64 2, .int .i64 3, .int .i64 4] :: [])) := Lib.hid (by rw [← hw2]; exact H0.out)
  have hlt2 : w.heap.size + 1 < w2.heap.size := by rw [← hw2]; simp
  have HA : Hid (AvsAt w2 [⟨ex0, .slice (some ⟨w.heap.size, 0, none⟩) 4 4⟩] (some ⟨w.heap.size + 1, 0, none⟩)) := Lib.hid ⟨fun _ => ⟨w.heap.size + 1, 0, rfl, hlt2, fun k hk => by
      obtain rfl : k = 0 := by simpa using hk
      exact (Blk.box (H2.out.at 0 rfl)).range⟩, fun r hr => by
      rw [List.mem_singleton.1 hr]
      refine ⟨_, _, rfl, Nat.le_refl _, fun _ => ⟨w.heap.size, 0, rfl, by omega, fun k hk => ?_⟩⟩
      have hB := Blk.box (H2.out.at 1 rfl)
      intro j v hj
      have hk4 : k < 4 := hk
      match k, hk4 with
      | 0, _ => (match j, hj with
        | 0, hj => (cases hj; exact hB.cell 0))
      | 1, _ => (match j, hj with
        | 0, hj => (cases hj; exact hB.cell 1))
      | 2, _ => (match j, hj with
        | 0, hj => (cases hj; exact hB.cell 2))
      | 3, _ => (match j, hj with
        | 0, hj => (cases hj; exact hB.cell 3))⟩
  rw [hw2]
  clear hw2 H0 hz
  have hex : ∀ a ∈ [ex0], a.okB = true := fun a ha => by rw [List.mem_singleton.1 ha]; exact ex0_ok
  have HW : Hid (Calls Tryd.prog 7 #[.slice (some ⟨w.heap.size + 1, 0, none⟩) 1 1] w2 fun e w' => e = .returned (.tuple #[.string ⟨#[0, 1, 2, 0, 4, 0, 10, 51, 144, 0, 0, 0, 0]⟩, .nilIface]) ∧ Below w2.heap.size w2 w') := Lib.hid (by
    have h := mvWrite_ok [⟨ex0, .slice (some ⟨w.heap.size, 0, none⟩) 4 4⟩] 1 rfl (some ⟨w.heap.size + 1, 0, none⟩) 1 w2 (by decide) HA.out hex
    rw [show [(⟨ex0, .slice (some ⟨w.heap.size, 0, none⟩) 4 4⟩ : ARow)].map ARow.a = [ex0] from rfl, ex0_bytes] at h
    exact h)
  have HR : Hid (∀ W, Calls Tryd.prog 8 #[.string ⟨#[0, 1, 2, 0, 4, 0, 10, 51, 144, 0, 0, 0, 0]⟩] W fun e w' => ∃ (L : List ARow) (A : Option Addr) (cap : Nat), L.map ARow.a = [ex0] ∧ e = .returned (.tuple #[.slice A 1 cap, .nilIface]) ∧ AvsAt w' L A ∧ Below W.heap.size W w') := Lib.hid (fun W => by
    have h := mvRead_ok [ex0] hex (by decide) W
    rw [ex0_bytes] at h
    exact h)
  have HSAME : Hid (∀ (W : World) (L : List ARow) (A4 : Option Addr) (c4 : Nat), Below w2.heap.size w2 W → L.map ARow.a = [ex0] → AvsAt W L A4 → Calls Tryd.prog 18 #[.slice (some ⟨w.heap.size + 1, 0, none⟩) 1 1, .slice A4 1 c4] W fun e w' => e = .returned (.bool true) ∧ Below W.heap.size W w') := Lib.hid (fun W L A4 c4 hb hL hA4 =>
    same_any [⟨ex0, .slice (some ⟨w.heap.size, 0, none⟩) 4 4⟩] L 1 rfl hL.symm _ A4 1 c4 W (by decide) (fun r hr => by rw [List.mem_singleton.1 hr]; exact (show (4 : Nat) ≤ 9223372036854775807 by decide)) (HA.out.below hb) hA4)
  go_wp2_with (first
    | ((with_reducible refine HW.out.mono ?_)
       rintro e w3 ⟨rfl, hb3⟩
       have HB3 := Lib.hid hb3
       clear hb3)
    | ((with_reducible refine (HR.out _).mono ?_)
       rintro e w4 ⟨L, A4, c4, hL, rfl, hA4, hb4⟩
       have HB4 := Lib.hid (HB3.out.trans (hb4.mono HB3.out.size))
       have HL := Lib.hid hL
       have HA4 := Lib.hid hA4
       clear hb4 hL hA4)
    | ((with_reducible refine (HSAME.out _ L A4 c4 HB4.out HL.out HA4.out).mono ?_)
       rintro e w5 ⟨rfl, hb5⟩
       have H5 := Lib.hid ((H2.out.ext HB4.out).ext hb5)
       clear hb5))
  go_ret
  exact ⟨rfl, H5.out.below⟩
end Go.Proofs.YtjekdodboihfhaaDoor

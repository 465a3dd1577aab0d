/- arp: Right, Write, Read, Reply. -/
import Derived.Test.YtidcjbanhdpkkaaDoorLacp9
import Derived.Test.YtidcjbanhdpkkaaDoorArM
namespace Go.Proofs.YtidcjbanhdpkkaaDoor
open Go.RowKit
def Qd.vals (x : Qd) : List Value := [.int .u8 x.a.toNat, .int .u8 x.b.toNat, .int .u8 x.c.toNat, .int .u8 x.d.toNat]
def Ar.vals (x : Ar) : List Value := .int .i64 x.op :: (x.sha.vals ++ (x.tha.vals ++ (x.spa.vals ++ x.tpa.vals)))
theorem Ar.len (x : Ar) : x.vals.length = 21 := rfl
theorem Qd.one (x : Qd) : ∀ v ∈ x.vals, v.oneCell' = true := fun v hv => by
  simp only [Qd.vals, List.mem_cons, List.not_mem_nil, or_false] at hv
  rcases hv with rfl | rfl | rfl | rfl <;> rfl
theorem Ar.one (x : Ar) : ∀ v ∈ x.vals, v.oneCell' = true := fun v hv => by
  simp only [Ar.vals, List.mem_cons, List.mem_append] at hv
  rcases hv with rfl | hv | hv | hv | hv
  · rfl
  · exact Ad.one _ v hv
  · exact Ad.one _ v hv
  · exact Qd.one _ v hv
  · exact Qd.one _ v hv
theorem info26 : (Tryd.prog.info? 26).map (·.size) = some 21 := by kernel_rfl
theorem info24 : (Tryd.prog.info? 24).map (·.size) = some 4 := by kernel_rfl
@[reducible] def zAr : List Value := [.int .i64 0, .int .u8 0, .int .u8 0, .int .u8 0, .int .u8 0, .int .u8 0, .int .u8 0, .int .u8 0, .int .u8 0, .int .u8 0, .int .u8 0, .int .u8 0, .int .u8 0, .int .u8 0, .int .u8 0, .int .u8 0, .int .u8 0, .int .u8 0, .int .u8 0, .int .u8 0, .int .u8 0]
def z0 : Ar := ⟨0, Ad.of [], Ad.of [], Qd.of [], Qd.of []⟩
theorem ar_zero : Tryd.prog.built 26 [] = some z0.vals.toArray := by kernel_rfl
theorem ar_rng {w : World} {g : Nat} {x : Ar} (h : Box w g x.vals) : w.cell? ⟨g, 0, none⟩ = some (.int .i64 x.op) ∧ w.rangeAt g 1 x.sha.vals ∧ w.rangeAt g 7 x.tha.vals ∧ w.rangeAt g 13 x.spa.vals ∧ w.rangeAt g 17 x.tpa.vals := by
  have h0 := h.range
  have h1 : w.rangeAt g 1 (x.sha.vals ++ (x.tha.vals ++ (x.spa.vals ++ x.tpa.vals))) := by
    have := rng_right (a := [.int .i64 x.op]) h0
    exact this
  have h2 : w.rangeAt g 7 (x.tha.vals ++ (x.spa.vals ++ x.tpa.vals)) := by
    have := rng_right (a := x.sha.vals) h1
    exact this
  have h3 : w.rangeAt g 13 (x.spa.vals ++ x.tpa.vals) := by
    have := rng_right (a := x.tha.vals) h2
    exact this
  have h4 : w.rangeAt g 17 x.tpa.vals := by
    have := rng_right (a := x.spa.vals) h3
    exact this
  exact ⟨h.cell 0, rng_left h1, rng_left h2, rng_left h3, h4⟩
theorem conv_qd {w : World} {g o : Nat} (x : Qd) (h : w.rangeAt g o x.vals) : (convert 92 9 (.slice (some ⟨g, o, none⟩) 4 4)).run Tryd.prog w = .ok (.string ⟨x.list.toArray⟩) w := by
  have := run_convert_bytes_back (P := Tryd.prog) w 92 9 5 ⟨g, o, none⟩ 4 x.list Tryd.underlying92 Tryd.underlying5 Tryd.underlying9 (fun j hj => by
    rw [Addr.add_lit]
    refine h j _ ?_
    obtain ⟨a, b, c, d⟩ := x
    match j, hj with
    | 0, _ | 1, _ | 2, _ | 3, _ => rfl)
  exact this
set_option maxRecDepth 100000 in
set_option maxHeartbeats 1000000 in
theorem arRight_any (x : Ar) (w : World) :
    Calls Tryd.prog 13 #[.agg x.vals.toArray] w fun e w' => e = .returned (.bool x.okB) ∧ Below w.heap.size w w' := by
  have HB := Lib.hid (Box.new w x.vals 26)
  have hb0 : Below w.heap.size w (w.alloc (.cells x.vals.toArray 26)) := (Below.refl _ _).alloc (Nat.le_refl _) _
  unfold Ar.okB
  have Hd : Hid (∀ b : Bool, (decide (x.op = 1) || decide (x.op = 2)) = b → Ending.returned (Value.bool b) = .returned (.bool (decide (x.op = 1) || decide (x.op = 2)))) := Lib.hid (fun b h => by rw [h])
  by_cases h1 : x.op = 1
  · have hb1 : (x.op == 1) = true := by simp [h1]
    have Hr := Lib.hid (Hd.out true (by simp [h1]))
    clear Hd h1
    go_enter Tryd.func13, Tryd.ntmps13
    go_upto_region 1 with (fail)
    generalize World.alloc _ _ = W0 at *
    have c0 := (ar_rng HB.out).1
    go_wp2_with fail
    go_ret
    exact ⟨Hr.out, hb0⟩
  · have hb1 : (x.op == 1) = false := by simp [h1]
    by_cases h2 : x.op = 2
    · have hb2 : (x.op == 2) = true := by simp [h2]
      have Hr := Lib.hid (Hd.out true (by simp [h2]))
      clear Hd h1 h2
      go_enter Tryd.func13, Tryd.ntmps13
      go_upto_region 1 with (fail)
      generalize World.alloc _ _ = W0 at *
      have c0 := (ar_rng HB.out).1
      go_wp2_with fail
      go_ret
      exact ⟨Hr.out, hb0⟩
    · have hb2 : (x.op == 2) = false := by simp [h2]
      have Hr := Lib.hid (Hd.out false (by simp [h1, h2]))
      clear Hd h1 h2
      go_enter Tryd.func13, Tryd.ntmps13
      go_upto_region 1 with (fail)
      generalize World.alloc _ _ = W0 at *
      have c0 := (ar_rng HB.out).1
      go_wp2_with fail
      go_ret
      exact ⟨Hr.out, hb0⟩
set_option maxRecDepth 100000 in
set_option maxHeartbeats 2000000 in
theorem arWrite_ok (x : Ar) (hx : x.okB = true) (w : World) :
    Calls Tryd.prog 18 #[.agg x.vals.toArray] w fun e w' => e = .returned (.tuple #[.string ⟨x.bytes.toArray⟩, .nilIface]) ∧ Below w.heap.size w w' := by
  have ho := Ar.ok_iff.1 hx
  have HK := Lib.hid hx
  clear hx
  have HB := Lib.hid (Box.new w x.vals 26)
  have hb0 : Below w.heap.size w (w.alloc (.cells x.vals.toArray 26)) := (Below.refl _ _).alloc (Nat.le_refl _) _
  have hl0 : w.heap.size < (w.alloc (.cells x.vals.toArray 26)).heap.size := by simp
  obtain ⟨op, sha, tha, spa, tpa⟩ := x
  simp only [] at ho
  obtain ⟨op, rfl⟩ := Int.eq_ofNat_of_zero_le (show 0 ≤ op by omega)
  have M0 : ∀ W, Calls Tryd.prog 45 #[.int .i64 (op : Int), .int .i64 2] W fun e w' => e = .returned (.string ⟨(beBytes op 2).toArray⟩) ∧ Below W.heap.size W w' := fun W => must_ok op 2 (by decide) (by decide) (by omega) W
  have HM0 := Lib.hid M0
  have hR : Ar.bytes ⟨(op : Int), sha, tha, spa, tpa⟩ = [0, 1, 8, 0, 6, 4] ++ beBytes op 2 ++ sha.list ++ spa.list ++ tha.list ++ tpa.list := rfl
  rw [hR]
  have L0 : (beBytes op 2).length ≤ 2 := by rw [beBytes_len]; decide
  have L1 : sha.list.length ≤ 6 := Nat.le_of_eq (Ad.len _)
  have L2 : tha.list.length ≤ 6 := Nat.le_of_eq (Ad.len _)
  have L3 : spa.list.length ≤ 4 := Nat.le_of_eq (Qd.len _)
  have L4 : tpa.list.length ≤ 4 := Nat.le_of_eq (Qd.len _)
  have K1 : Hid (∀ X : World, X.rangeAt w.heap.size 1 sha.vals → (convert 92 9 (.slice (some ⟨w.heap.size, 1, none⟩) 6 6)).run Tryd.prog X = .ok (.string ⟨sha.list.toArray⟩) X) := Lib.hid (fun X h => conv_ad sha h)
  have K2 : Hid (∀ X : World, X.rangeAt w.heap.size 7 tha.vals → (convert 92 9 (.slice (some ⟨w.heap.size, 7, none⟩) 6 6)).run Tryd.prog X = .ok (.string ⟨tha.list.toArray⟩) X) := Lib.hid (fun X h => conv_ad tha h)
  have K3 : Hid (∀ X : World, X.rangeAt w.heap.size 13 spa.vals → (convert 92 9 (.slice (some ⟨w.heap.size, 13, none⟩) 4 4)).run Tryd.prog X = .ok (.string ⟨spa.list.toArray⟩) X) := Lib.hid (fun X h => conv_qd spa h)
  have K4 : Hid (∀ X : World, X.rangeAt w.heap.size 17 tpa.vals → (convert 92 9 (.slice (some ⟨w.heap.size, 17, none⟩) 4 4)).run Tryd.prog X = .ok (.string ⟨tpa.list.toArray⟩) X) := Lib.hid (fun X h => conv_qd tpa h)
  clear M0 hR ho
  generalize beBytes op 2 = B0 at *
  generalize sha.list = S1 at *
  generalize tha.list = S2 at *
  generalize spa.list = S3 at *
  generalize tpa.list = S4 at *
  go_enter Tryd.func18, Tryd.ntmps18
  go_upto_region 1 with (fail)
  generalize World.alloc _ _ = W0 at *
  go_upto_region 3 with (first
    | (with_reducible refine wpList_load_rng (ty := 26) (Ar.vals _) (by with_unfolding_all rfl) HB.out.range Tryd.underlying26 (by with_unfolding_all rfl) (by with_unfolding_all exact info26) ?_)
    | ((with_reducible refine (arRight_any _ W0).mono ?_)
       rintro e w1 ⟨rfl, hb1⟩
       rw [HK.out]))
  have HB1 := Lib.hid (HB.out.below hb1 hl0)
  have hl1 := Nat.lt_of_lt_of_le hl0 hb1.size
  obtain ⟨c0, r1, r2, r3, r4⟩ := ar_rng HB1.out
  simp only [] at c0 r1 r2 r3 r4
  have k1 : ∀ x : Ext w1, (convert 92 9 (.slice (some ⟨w.heap.size, 1, none⟩) 6 6)).run Tryd.prog x.val = .ok (.string ⟨S1.toArray⟩) x.val := fun x => K1.out _ (rangeAt_below r1 x.below hl1)
  have k2 : ∀ x : Ext w1, (convert 92 9 (.slice (some ⟨w.heap.size, 7, none⟩) 6 6)).run Tryd.prog x.val = .ok (.string ⟨S2.toArray⟩) x.val := fun x => K2.out _ (rangeAt_below r2 x.below hl1)
  have k3 : ∀ x : Ext w1, (convert 92 9 (.slice (some ⟨w.heap.size, 13, none⟩) 4 4)).run Tryd.prog x.val = .ok (.string ⟨S3.toArray⟩) x.val := fun x => K3.out _ (rangeAt_below r3 x.below hl1)
  have k4 : ∀ x : Ext w1, (convert 92 9 (.slice (some ⟨w.heap.size, 17, none⟩) 4 4)).run Tryd.prog x.val = .ok (.string ⟨S4.toArray⟩) x.val := fun x => K4.out _ (rangeAt_below r4 x.below hl1)
  clear r1 r2 r3 r4
  refine wp_region_ext (by kernel_rfl) (by kernel_rfl) ?_
  repeat (go_big_quiet_step (first | (with_reducible exact Calls.ext _ (HM0.out _))))
  refine wpQuiet_nil ?_
  rintro w2 ⟨⟨_, hb2⟩, rfl⟩
  go_wp2_with fail
  go_ret2
  refine ⟨?_, (hb0.trans (hb1.mono hb0.size)).trans (hb2.mono (Nat.le_trans hb0.size hb1.size))⟩
  simp [List.append_assoc]
end Go.Proofs.YtidcjbanhdpkkaaDoor

/- pause.Write. -/
import Derived.Test.YtidcjbanhdpkkaaDoorPause
import Derived.Test.YtidcjbanhdpkkaaDoorMust
namespace Go.Proofs.YtidcjbanhdpkkaaDoor
open Go.RowKit
def pfcBytes (en : Nat) (ts : List Nat) : List UInt8 := beBytes 257 2 ++ beBytes en 2 ++ ts.flatMap (fun t => beBytes t 2)
theorem flatMap_snoc (ts : List Nat) (k : Nat) (hk : k < ts.length) : (ts.take (k + 1)).flatMap (fun t => beBytes t 2) = (ts.take k).flatMap (fun t => beBytes t 2) ++ beBytes ts[k] 2 := by
  rw [List.take_succ_eq_append_getElem hk, List.flatMap_append]; simp
theorem flatMap_len (ts : List Nat) : (ts.flatMap (fun t => beBytes t 2)).length = 2 * ts.length := by
  induction ts with
  | nil => rfl
  | cons t ts ih => simp only [List.flatMap_cons, List.length_append, ih, beBytes_len, List.length_cons]; omega
theorem pauseRight_yes (en t0 t1 t2 t3 t4 t5 t6 t7 : Nat) (he : en ≤ 255) (ht : ∀ t ∈ [t0, t1, t2, t3, t4, t5, t6, t7], t ≤ 65535) : pauseRight true (en : Int) [(t0 : Int), (t1 : Int), (t2 : Int), (t3 : Int), (t4 : Int), (t5 : Int), (t6 : Int), (t7 : Int)] = true := by
  rw [pause_yes]
  · simp; omega
  · intro j hj
    simp only [List.mem_cons, List.mem_nil_iff, or_false, forall_eq_or_imp, forall_eq] at ht
    rcases j with _ | _ | _ | _ | _ | _ | _ | _ | j
    all_goals first | (exfalso; omega) | (unfold pOk; simp; omega)
set_option maxRecDepth 100000 in
set_option maxHeartbeats 1000000 in
theorem pauseWrite_pfc (en t0 t1 t2 t3 t4 t5 t6 t7 : Nat) (he : en ≤ 255) (ht : ∀ t ∈ [t0, t1, t2, t3, t4, t5, t6, t7], t ≤ 65535) (w : World) :
    Calls Tryd.prog 24 #[.agg #[.bool true, .int .i64 (en : Int), .int .i64 (t0 : Int), .int .i64 (t1 : Int), .int .i64 (t2 : Int), .int .i64 (t3 : Int), .int .i64 (t4 : Int), .int .i64 (t5 : Int), .int .i64 (t6 : Int), .int .i64 (t7 : Int)]] w fun e w' =>
      e = .returned (.tuple #[.string ⟨(pfcBytes en [t0, t1, t2, t3, t4, t5, t6, t7]).toArray⟩, .nilIface]) ∧ Below w.heap.size w w' := by
  have hR := pauseRight_yes en t0 t1 t2 t3 t4 t5 t6 t7 he ht
  have hidx := pause_index (t0 : Int) t1 t2 t3 t4 t5 t6 t7
  have HR := Lib.hid hR
  have HT := Lib.hid ht
  have Hidx := Lib.hid hidx
  clear hR ht hidx
  go_enter Tryd.func24, Tryd.ntmps24
  go_wp2_with fail
  refine (pauseRight_any true (en : Int) t0 t1 t2 t3 t4 t5 t6 t7 _).mono ?_
  rintro e w1 ⟨rfl, hb1⟩
  rw [HR.out]
  have hC := cells_later hb1
  have hlt : w.heap.size < w1.heap.size := by have := hb1.size; simp at this; omega
  have b1 : Below w.heap.size w w1 := ((Below.refl _ w).alloc (Nat.le_refl _) _).trans (hb1.mono (by simp))
  clear hb1
  go_wp2_with fail
  have hm1 : ∀ W, Calls Tryd.prog 45 #[.int .i64 257, .int .i64 2] W fun e w' => e = .returned (.string ⟨(beBytes 257 2).toArray⟩) ∧ Below W.heap.size W w' := fun W => must_ok 257 2 (by decide) (by decide) (by decide) W
  have hm2 : ∀ W, Calls Tryd.prog 45 #[.int .i64 (en : Int), .int .i64 2] W fun e w' => e = .returned (.string ⟨(beBytes en 2).toArray⟩) ∧ Below W.heap.size W w' := fun W => must_ok en 2 (by decide) (by decide) (by omega) W
  have l1 : (beBytes 257 2).length ≤ 2 := by rw [beBytes_len]; exact Nat.le_refl _
  have l2 : (beBytes en 2).length ≤ 2 := by rw [beBytes_len]; exact Nat.le_refl _
  generalize hB1 : beBytes 257 2 = B1 at hm1 l1
  generalize hB2 : beBytes en 2 = B2 at hm2 l2
  have HB1 := Lib.hid hB1
  have HB2 := Lib.hid hB2
  clear hB1 hB2
  have Hm1 := Lib.hid hm1
  have Hm2 := Lib.hid hm2
  clear hm1 hm2
  refine wp_region_ext (by kernel_rfl) (by kernel_rfl) ?_
  repeat (go_big_quiet_step (first | (with_reducible exact Calls.ext _ (Hm1.out _)) | (with_reducible exact Calls.ext _ (Hm2.out _))))
  trace "A"
  refine wpQuiet_nil ?_
  rintro w2 ⟨⟨_, hb2⟩, rfl⟩
  have b2 := b1.trans (hb2.mono b1.size)
  have hC2 : ∀ j, w2.cell? ⟨w.heap.size, j, none⟩ = (#[.bool true, .int .i64 (en : Int), .int .i64 (t0 : Int), .int .i64 (t1 : Int), .int .i64 (t2 : Int), .int .i64 (t3 : Int), .int .i64 (t4 : Int), .int .i64 (t5 : Int), .int .i64 (t6 : Int), .int .i64 (t7 : Int)] : Array Value)[j]? := fun j => (hb2.cell (p := ⟨w.heap.size, j, none⟩) hlt).trans (hC j)
  clear hC hb2 b1
  go_wp2_with fail
  go_loopw [4, 27] (fun s i wr => ∃ (k : Nat) (L : List UInt8), k ≤ 8 ∧ i = .int .i64 k ∧ s = .string ⟨L.toArray⟩ ∧ Hid (L = B1 ++ B2 ++ ([t0, t1, t2, t3, t4, t5, t6, t7].take k).flatMap (fun t => beBytes t 2)) ∧ Below w.heap.size w wr) (fun _ i _ => 8 - (intOf i).toNat)
  case atStart => trace "B"; exact ⟨0, B1 ++ B2, by omega, rfl, rfl, by simp [Hid], b2⟩
  case round =>
    obtain ⟨k, L, hk, rfl, rfl, HL, hbr⟩ := hrel
    by_cases hlt8 : k < 8
    · have hx := Hidx.out k hlt8
      have hk8 : k < [t0, t1, t2, t3, t4, t5, t6, t7].length := by simpa using hlt8
      have hval : [(t0 : Int), (t1 : Int), (t2 : Int), (t3 : Int), (t4 : Int), (t5 : Int), (t6 : Int), (t7 : Int)].getD k 0 = (([t0, t1, t2, t3, t4, t5, t6, t7][k] : Nat) : Int) := by
        rcases k with _ | _ | _ | _ | _ | _ | _ | _ | k
        all_goals first | rfl | (exfalso; simp at hk8; omega)
      have hle := HT.out _ (List.getElem_mem hk8)
      have hsn := flatMap_snoc [t0, t1, t2, t3, t4, t5, t6, t7] k hk8
      rw [hval] at hx
      generalize [t0, t1, t2, t3, t4, t5, t6, t7][k] = tk at hx hle hsn
      have Hsn := Lib.hid hsn
      have hLl : L.length ≤ 100 := by
        rw [HL.out]
        simp only [List.length_append, beBytes_len, flatMap_len, List.length_take]
        omega
      clear hsn hval hk8
      go_wp2_with fail
      trace "C"
      refine (must_ok tk 2 (by decide) (by decide) (by omega) _).mono ?_
      rintro e w3 ⟨rfl, hb3⟩
      have hl2 := beBytes_len tk 2
      have hnew : L ++ beBytes tk 2 = B1 ++ B2 ++ ([t0, t1, t2, t3, t4, t5, t6, t7].take (k + 1)).flatMap (fun t => beBytes t 2) := by
        rw [Hsn.out, HL.out, List.append_assoc]
      have Hnew := Lib.hid hnew
      have b3 := hbr.trans (hb3.mono hbr.size)
      have hl2' : (beBytes tk 2).length ≤ 2 := by omega
      generalize beBytes tk 2 = B at hl2' Hnew
      clear hnew hl2
      go_wp2_with fail
      go_roundw
      case rel => exact ⟨k + 1, L ++ B, by omega, by go_num, rfl, Hnew, b3⟩
      case measure => simp [intOf]; omega
    · go_wp2_with fail
      go_ret2
      refine ⟨?_, hbr⟩
      have : k = 8 := by omega
      have h := HL.out
      rw [this, List.take_of_length_le (by simp)] at h
      rw [h]
      unfold pfcBytes
      rw [HB1.out, HB2.out]
      rfl
end Go.Proofs.YtidcjbanhdpkkaaDoor

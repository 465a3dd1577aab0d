import Derived.Test.YtdeaednccdoklaaCrcWalk
import Derived.Test.YtdeaednccdoklaaCrcLaw2
namespace Go.Proofs.Ytdeaednccdoklaa
open Go.RowKit
theorem seal_any (s : List UInt8) (w : World) (hs : s.length ≤ 140737488355328) :
    Calls Try.prog 11 #[.string ⟨s.toArray⟩] w fun e w' => e = .returned (.string ⟨(crcSeal s).toArray⟩) ∧ Below w.heap.size w w' := by
  have hlt := crcSum_lt s
  generalize hn : crcSum s = n at hlt
  have Hn := Lib.hid hn
  go_enter Try.func11, Try.ntmps11
  go_wp2_with fail
  refine (sum_any s _ (by omega)).mono ?_
  rintro e w1 ⟨rfl, hb1⟩
  rw [hn]
  clear hn
  have hcv := conv_lit (P := Try.prog) w1 23 9 5 5 [(n : Int) % 256, (n : Int) / 256 % 256, (n : Int) / 65536 % 256, (n : Int) / 16777216] 4 (0, 0) Try.underlying23 Try.underlying5 Try.underlying9
  simp only [List.map_cons, List.map_nil, List.length_cons, List.length_nil, Nat.reduceAdd] at hcv
  go_wp2
  go_ret
  refine ⟨?_, hb1.alloc hb1.size _⟩
  unfold crcSeal
  rw [Hn.out]
  rfl
set_option maxHeartbeats 400000 in
theorem open_short (s : List UInt8) (w : World) (hs : s.length < 4) :
    Calls Try.prog 12 #[.string ⟨s.toArray⟩] w fun e w' => e = .returned (.tuple #[.string ⟨#[]⟩, .iface 45 (.int .i64 7)]) ∧ Below w.heap.size w w' := by
  go_enter Try.func12, Try.ntmps12
  go_wp2_with fail
  go_ret2
  exact ⟨rfl, Below.refl _ _⟩
set_option maxHeartbeats 400000 in
theorem open_bad (s : List UInt8) (w : World) (hs : 4 ≤ s.length) (h2 : s.length ≤ 140737488355328) (hne : (crcSeal (s.take (s.length - 4)) == s) = false) :
    Calls Try.prog 12 #[.string ⟨s.toArray⟩] w fun e w' => e = .returned (.tuple #[.string ⟨#[]⟩, .iface 45 (.int .i64 15)]) ∧ Below w.heap.size w w' := by
  go_enter Try.func12, Try.ntmps12
  go_wp2_with fail
  refine (seal_any (s.take (s.length - 4)) _ (by rw [List.length_take]; omega)).mono ?_
  rintro e w1 ⟨rfl, hb1⟩
  go_wp2_with fail
  go_ret2
  exact ⟨rfl, hb1⟩
set_option maxHeartbeats 400000 in
theorem open_good (s : List UInt8) (w : World) (hs : 4 ≤ s.length) (h2 : s.length ≤ 140737488355328) (hne : (crcSeal (s.take (s.length - 4)) == s) = true) :
    Calls Try.prog 12 #[.string ⟨s.toArray⟩] w fun e w' => e = .returned (.tuple #[.string ⟨(s.take (s.length - 4)).toArray⟩, .nilIface]) ∧ Below w.heap.size w w' := by
  go_enter Try.func12, Try.ntmps12
  go_wp2_with fail
  refine (seal_any (s.take (s.length - 4)) _ (by rw [List.length_take]; omega)).mono ?_
  rintro e w1 ⟨rfl, hb1⟩
  go_wp2_with fail
  go_ret2
  exact ⟨rfl, hb1⟩
end Go.Proofs.Ytdeaednccdoklaa

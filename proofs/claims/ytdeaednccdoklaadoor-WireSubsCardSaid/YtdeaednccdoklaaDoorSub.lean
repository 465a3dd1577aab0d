/- wire.Reader: Sub. -/
import Derived.Test.YtdeaednccdoklaaDoorReader2
namespace Go.Proofs.YtdeaednccdoklaaDoor
open Go.RowKit
/-- What Sub gives: a Reader of its own of the next n bytes; the elder one goes on behind them. -/
def SubOk (w : World) (b : Nat) (s : List UInt8) (at_ off n : Nat) (e : Ending) (w' : World) : Prop :=
  ∃ g, e = .returned (.pointer (some ⟨g, 0, none⟩)) ∧ w.heap.size ≤ g ∧ Rd w' g ((s.drop at_).take n) 0 (off + at_) .nilIface ∧ Rd w' b s (at_ + n) off .nilIface ∧ Upd b w w'
theorem sub_ok {w : World} {b : Nat} {s : List UInt8} {at_ off : Nat} (h : Rd w b s at_ off .nilIface) (n : Nat) (hn : at_ + n ≤ s.length) (hs : off + s.length ≤ 9223372036854775807) :
    Calls Tryd.prog 15 #[.pointer (some ⟨b, 0, none⟩), .int .i64 (n : Int)] w (SubOk w b s at_ off n) := by
  have Hr := Lib.hid h
  have hlt := h.lt
  clear h
  go_enter Tryd.func15, Tryd.ntmps15
  go_wp2_with fail
  refine (at_any Hr.out (by omega)).mono ?_
  rintro e w1 ⟨rfl, hb1⟩
  have Hr1 := Lib.hid (Hr.out.keep hb1)
  go_wp2_with fail
  refine (bytes_ok Hr1.out n hn (by omega)).mono ?_
  rintro e w2 ⟨rfl, hr2, hu2⟩
  have Hr2 := Lib.hid hr2
  obtain ⟨c0, c1, c2, c3, z1, z3, hlt2⟩ := hr2
  go_wp2_with fail
  go_ret
  have hs2 : w.heap.size ≤ w2.heap.size := Nat.le_trans hb1.size hu2.size
  refine ⟨w2.heap.size, rfl, hs2, ⟨?_, ?_, ?_, ?_, ?_, ?_, ?_⟩, Hr2.out.keep ((Below.refl _ _).alloc (Nat.le_refl _) _), ((Upd.of_below hb1 b).trans hu2).alloc _⟩
  all_goals first | (rw [World.cell?_alloc_mark]; rfl) | (rw [World.frozen?_alloc_mark]; rfl) | simp
end Go.Proofs.YtdeaednccdoklaaDoor

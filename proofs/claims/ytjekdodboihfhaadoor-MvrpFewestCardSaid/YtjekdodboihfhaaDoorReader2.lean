/- wire.Reader: Bytes. -/
import Derived.Test.YtjekdodboihfhaaDoorReader
set_option linter.all false
namespace Go.Proofs.YtjekdodboihfhaaDoor
open Go.RowKit
/-- The Reader has noted an error, where nothing else of it has turned. -/
def SomeErr (w : World) (b : Nat) (s : List UInt8) (at_ off : Nat) (e p : Int) : Prop := ∃ v, Rd w b s at_ off v ∧ ErrAt w v e p
theorem SomeErr.keep {w w' : World} {b : Nat} {s : List UInt8} {at_ off : Nat} {e p : Int} (h : SomeErr w b s at_ off e p) (hb : Below w.heap.size w w') : SomeErr w' b s at_ off e p := by
  obtain ⟨v, h1, h2⟩ := h
  exact ⟨v, h1.keep hb, h2.keep hb⟩
theorem bytes_had {w : World} {b : Nat} {s : List UInt8} {at_ off : Nat} {t : TypeId} {x : Value} (h : Rd w b s at_ off (.iface t x)) (n : Int) :
    Calls Tryd.prog 40 #[.pointer (some ⟨b, 0, none⟩), .int .i64 n] w fun e w' => e = .returned (.string ⟨#[]⟩) ∧ Below w.heap.size w w' := by
  obtain ⟨c0, c1, c2, c3, z1, z3, hlt⟩ := h
  go_enter Tryd.func40, Tryd.ntmps40
  go_wp2_with fail
  go_ret
  exact ⟨rfl, Below.refl _ _⟩
set_option maxHeartbeats 400000 in
theorem bytes_ok {w : World} {b : Nat} {s : List UInt8} {at_ off : Nat} (h : Rd w b s at_ off .nilIface) (n : Nat) (hn : at_ + n ≤ s.length) (hs : s.length ≤ 9223372036854775807) :
    Calls Tryd.prog 40 #[.pointer (some ⟨b, 0, none⟩), .int .i64 (n : Int)] w fun e w' => e = .returned (.string ⟨((s.drop at_).take n).toArray⟩) ∧ Rd w' b s (at_ + n) off .nilIface ∧ Upd b w w' := by
  have hr := h
  obtain ⟨c0, c1, c2, c3, z1, z3, hlt⟩ := h
  have Hr := Lib.hid hr
  clear hr
  go_enter Tryd.func40, Tryd.ntmps40
  go_wp2_with fail
  refine (left_any Hr.out (by omega) (by omega)).mono ?_
  rintro e w1 ⟨rfl, hb1⟩
  have Hr1 := Lib.hid (Hr.out.keep hb1)
  obtain ⟨d0, d1, d2, d3, y1, y3, hlt1⟩ := Hr1.out
  clear c0 c1 c2 c3 z1 z3
  go_wp2_with fail
  have hw1 : IntKind.i64.wrap (at_ : Int) = at_ := IntWalk.i64_in _ (by omega)
  have hsl := cut_ab (P := Tryd.prog) 9 Tryd.underlying9 s (at_ : Int) ((at_ : Int) + (n : Int)) (by omega) (by omega) (by omega)
  rw [show ((at_ : Int) + (n : Int)).toNat = at_ + n by omega, Int.toNat_natCast, drop_take_add] at hsl
  go_region
  all_goals
    go_wp2_with fail
    go_ret
    have hw : Below w.heap.size w w1 := hb1
    refine ⟨?_, ?_, ?_⟩
    · rfl
    · exact (Hr1.out.setAt' (by omega)).drew
    · exact (((Upd.of_below hb1 b).setCell 1 _).drew)
theorem bytes_fail {w : World} {b : Nat} {s : List UInt8} {at_ off : Nat} (h : Rd w b s at_ off .nilIface) (n : Int) (ha : at_ ≤ s.length) (hn : n < 0 ∨ (s.length : Int) - at_ < n) (hs : off + s.length ≤ 9223372036854775807) :
    Calls Tryd.prog 40 #[.pointer (some ⟨b, 0, none⟩), .int .i64 n] w fun e w' => e = .returned (.string ⟨#[]⟩) ∧ Upd b w w' ∧ SomeErr w' b s at_ off (if n < 0 then 2 else 7) ((off + at_ : Nat) : Int) := by
  have Hr := Lib.hid h
  obtain ⟨c0, c1, c2, c3, z1, z3, hlt⟩ := h
  by_cases hneg : n < 0
  · rw [if_pos hneg]
    clear hn
    go_enter Tryd.func40, Tryd.ntmps40
    go_wp2_with fail
    refine (at_any Hr.out (by omega)).mono ?_
    rintro e w1 ⟨rfl, hb1⟩
    have Hr1 := Lib.hid (Hr.out.keep hb1)
    clear c0 c1 c2 c3 z1 z3
    go_wp2_with fail
    refine (fail_new Hr1.out 2 _).mono ?_
    rintro e w2 ⟨rfl, hu, hlt2, hr2, he2⟩
    have Hr2 := Lib.hid hr2
    have He2 := Lib.hid he2
    clear hr2 he2
    go_wp2_with fail
    go_ret
    exact ⟨rfl, (Upd.of_below hb1 b).trans hu, _, Hr2.out, He2.out⟩
  · rw [if_neg hneg]
    have hn2 : (s.length : Int) - at_ < n := by omega
    obtain ⟨m, rfl⟩ := Int.eq_ofNat_of_zero_le (show 0 ≤ n by omega)
    clear hn
    go_enter Tryd.func40, Tryd.ntmps40
    go_wp2_with fail
    refine (left_any Hr.out (by omega) (by omega)).mono ?_
    rintro e w0 ⟨rfl, hb0⟩
    have Hr0 := Lib.hid (Hr.out.keep hb0)
    clear c0 c1 c2 c3 z1 z3
    go_wp2_with fail
    refine (at_any Hr0.out (by omega)).mono ?_
    rintro e w1 ⟨rfl, hb1⟩
    have Hr1 := Lib.hid (Hr0.out.keep hb1)
    go_wp2_with fail
    refine (fail_new Hr1.out 7 _).mono ?_
    rintro e w2 ⟨rfl, hu, hlt2, hr2, he2⟩
    have Hr2 := Lib.hid hr2
    have He2 := Lib.hid he2
    clear hr2 he2
    go_wp2_with fail
    go_ret
    exact ⟨rfl, (Upd.of_below (hb0.trans (hb1.mono hb0.size)) b).trans hu, _, Hr2.out, He2.out⟩
end Go.Proofs.YtjekdodboihfhaaDoor

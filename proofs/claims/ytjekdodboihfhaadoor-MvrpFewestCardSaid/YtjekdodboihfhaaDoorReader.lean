/- wire.Reader: what it is in memory, and the walks of its methods. -/
import Derived.Test.YtjekdodboihfhaaDoorRows
import Derived.Test.YtjekdodboihfhaaDoorKit
set_option linter.all false
namespace Go.Proofs.YtjekdodboihfhaaDoor
open Go.RowKit
/-- Of what was there only block b may have turned. -/
structure Upd (b : Nat) (w w' : World) : Prop where
  os : w'.os = w.os
  tape : w'.tape = w.tape
  output : w'.output = w.output
  size : w.heap.size ≤ w'.heap.size
  block : ∀ k, k < w.heap.size → k ≠ b → w'.heap[k]? = w.heap[k]?
theorem Upd.refl (b : Nat) (w : World) : Upd b w w := ⟨rfl, rfl, rfl, Nat.le_refl _, fun _ _ _ => rfl⟩
theorem Upd.trans {b : Nat} {w1 w2 w3 : World} (h : Upd b w1 w2) (k : Upd b w2 w3) : Upd b w1 w3 :=
  ⟨k.os.trans h.os, k.tape.trans h.tape, k.output.trans h.output, Nat.le_trans h.size k.size, fun i hi hne => (k.block i (Nat.lt_of_lt_of_le hi h.size) hne).trans (h.block i hi hne)⟩
theorem Upd.of_below {w w' : World} (h : Below w.heap.size w w') (b : Nat) : Upd b w w' := ⟨h.os, h.tape, h.output, h.size, fun i hi _ => h.block i hi⟩
theorem Upd.setCell {w w' : World} {b : Nat} (h : Upd b w w') (o : Nat) (v : Value) : Upd b w (w'.setCell ⟨b, o, none⟩ v) :=
  ⟨h.os, h.tape, h.output, by simpa [World.setCell] using h.size, fun i hi hne => (Below.heap_setCell _ _ _ _ hne).trans (h.block i hi hne)⟩
theorem Upd.drew {w w' : World} {b : Nat} (h : Upd b w w') : Upd b w w'.drew := ⟨h.os, h.tape, h.output, h.size, h.block⟩
theorem Upd.alloc {w w' : World} {b : Nat} (h : Upd b w w') (o : Obj) : Upd b w (w'.alloc o) :=
  ⟨h.os, h.tape, h.output, Nat.le_trans h.size (by simp), fun i hi hne => (Below.heap_alloc _ _ _ (Nat.lt_of_lt_of_le hi h.size)).trans (h.block i hi hne)⟩
theorem Upd.below {B b : Nat} {w w' : World} (h : Upd b w w') (hB : B ≤ b) (hs : B ≤ w.heap.size) : Below B w w' :=
  ⟨h.os, h.tape, h.output, h.size, fun k hk => h.block k (by omega) (by omega)⟩
theorem Upd.cell {b : Nat} {w w' : World} (h : Upd b w w') {p : Addr} (hp : p.block < w.heap.size) (hne : p.block ≠ b) : w'.cell? p = w.cell? p := World.cell?_of_block (w := w) (h.block p.block hp hne)
theorem Upd.frozen {b : Nat} {w w' : World} (h : Upd b w w') {p : Addr} (hp : p.block < w.heap.size) (hne : p.block ≠ b) : w'.frozen? p = w.frozen? p := World.frozen?_of_block (w := w) (h.block p.block hp hne)

theorem CellsAt.other {w w' : World} {b B : Nat} {C : List Value} (h : CellsAt w B C) (hu : Upd b w w') (hlt : B < w.heap.size) (hne : B ≠ b) : CellsAt w' B C :=
  fun i hi => ⟨(hu.cell (p := ⟨B, i, none⟩) hlt hne).trans (h i hi).1, (hu.frozen (p := ⟨B, i, none⟩) hlt hne).trans (h i hi).2⟩
/-- A Reader in block b: its text, its place, its offset, its error. -/
structure Rd (w : World) (b : Nat) (s : List UInt8) (at_ off : Nat) (err : Value) : Prop where
  c0 : w.cell? ⟨b, 0, none⟩ = some (.string ⟨s.toArray⟩)
  c1 : w.cell? ⟨b, 1, none⟩ = some (.int .i64 (at_ : Int))
  c2 : w.cell? ⟨b, 2, none⟩ = some (.int .i64 (off : Int))
  c3 : w.cell? ⟨b, 3, none⟩ = some err
  z1 : w.frozen? ⟨b, 1, none⟩ = false
  z3 : w.frozen? ⟨b, 3, none⟩ = false
  lt : b < w.heap.size
theorem Rd.below {w w' : World} {b B : Nat} {s : List UInt8} {at_ off : Nat} {err : Value} (h : Rd w b s at_ off err) (hb : Below B w w') (hB : b < B) : Rd w' b s at_ off err :=
  ⟨(hb.cell (p := ⟨b, 0, none⟩) hB).trans h.c0, (hb.cell (p := ⟨b, 1, none⟩) hB).trans h.c1, (hb.cell (p := ⟨b, 2, none⟩) hB).trans h.c2, (hb.cell (p := ⟨b, 3, none⟩) hB).trans h.c3,
    (hb.frozen (p := ⟨b, 1, none⟩) hB).trans h.z1, (hb.frozen (p := ⟨b, 3, none⟩) hB).trans h.z3, Nat.lt_of_lt_of_le h.lt hb.size⟩
theorem Rd.keep {w w' : World} {b : Nat} {s : List UInt8} {at_ off : Nat} {err : Value} (h : Rd w b s at_ off err) (hb : Below w.heap.size w w') : Rd w' b s at_ off err := h.below hb h.lt
theorem Rd.other {w w' : World} {b b' : Nat} {s : List UInt8} {at_ off : Nat} {err : Value} (h : Rd w b s at_ off err) (hu : Upd b' w w') (hne : b ≠ b') : Rd w' b s at_ off err :=
  ⟨(hu.cell (p := ⟨b, 0, none⟩) h.lt hne).trans h.c0, (hu.cell (p := ⟨b, 1, none⟩) h.lt hne).trans h.c1, (hu.cell (p := ⟨b, 2, none⟩) h.lt hne).trans h.c2, (hu.cell (p := ⟨b, 3, none⟩) h.lt hne).trans h.c3,
    (hu.frozen (p := ⟨b, 1, none⟩) h.lt hne).trans h.z1, (hu.frozen (p := ⟨b, 3, none⟩) h.lt hne).trans h.z3, Nat.lt_of_lt_of_le h.lt hu.size⟩
theorem Rd.setAt {w : World} {b : Nat} {s : List UInt8} {at_ off : Nat} {err : Value} (h : Rd w b s at_ off err) (n : Nat) : Rd (w.setCell ⟨b, 1, none⟩ (.int .i64 (n : Int))) b s n off err :=
  ⟨(World.cell?_setCell_other _ _ _ _ (by simp)).trans h.c0, World.cell?_setCell_same _ _ _ (by rw [h.c1]), (World.cell?_setCell_other _ _ _ _ (by simp)).trans h.c2, (World.cell?_setCell_other _ _ _ _ (by simp)).trans h.c3,
    (World.frozen?_setCell _ _ _ _).trans h.z1, (World.frozen?_setCell _ _ _ _).trans h.z3, by simpa [World.setCell] using h.lt⟩
theorem Rd.drew {w : World} {b : Nat} {s : List UInt8} {at_ off : Nat} {err : Value} (h : Rd w b s at_ off err) : Rd w.drew b s at_ off err := ⟨h.c0, h.c1, h.c2, h.c3, h.z1, h.z3, h.lt⟩
theorem Rd.setAt' {w : World} {b : Nat} {s : List UInt8} {at_ off : Nat} {err : Value} (h : Rd w b s at_ off err) {n : Nat} {v : Int} (hv : v = n) : Rd (w.setCell ⟨b, 1, none⟩ (.int .i64 v)) b s n off err := by
  subst hv; exact h.setAt n
theorem Rd.setErr {w : World} {b : Nat} {s : List UInt8} {at_ off : Nat} {err : Value} (h : Rd w b s at_ off err) (v : Value) : Rd (w.setCell ⟨b, 3, none⟩ v) b s at_ off v :=
  ⟨(World.cell?_setCell_other _ _ _ _ (by simp)).trans h.c0, (World.cell?_setCell_other _ _ _ _ (by simp)).trans h.c1, (World.cell?_setCell_other _ _ _ _ (by simp)).trans h.c2, World.cell?_setCell_same _ _ _ (by rw [h.c3]),
    (World.frozen?_setCell _ _ _ _).trans h.z1, (World.frozen?_setCell _ _ _ _).trans h.z3, by simpa [World.setCell] using h.lt⟩

theorem new_any (s : List UInt8) (off : Nat) (w : World) :
    Calls Tryd.prog 23 #[.string ⟨s.toArray⟩, .int .i64 (off : Int)] w fun e w' => e = .returned (.pointer (some ⟨w.heap.size, 0, none⟩)) ∧ Rd w' w.heap.size s 0 off .nilIface ∧ Below w.heap.size w w' ∧ w.heap.size < w'.heap.size := by
  go_enter Tryd.func23, Tryd.ntmps23
  go_wp2
  go_ret
  refine ⟨rfl, ⟨?_, ?_, ?_, ?_, ?_, ?_, ?_⟩, (Below.refl _ w).alloc (Nat.le_refl _) _, by simp⟩
  all_goals first | (rw [World.cell?_alloc_mark]; rfl) | (rw [World.frozen?_alloc_mark]; rfl) | simp
theorem left_any {w : World} {b : Nat} {s : List UInt8} {at_ off : Nat} {err : Value} (h : Rd w b s at_ off err) (ha : at_ ≤ s.length) (hs : s.length ≤ 9223372036854775807) :
    Calls Tryd.prog 41 #[.pointer (some ⟨b, 0, none⟩)] w fun e w' => e = .returned (.int .i64 ((s.length - at_ : Nat) : Int)) ∧ Below w.heap.size w w' := by
  obtain ⟨c0, c1, c2, c3, z1, z3, hlt⟩ := h
  go_enter Tryd.func41, Tryd.ntmps41
  go_wp2
  go_region
  all_goals (go_wp2; go_ret; exact ⟨ret_int (by omega), (Below.refl _ w).drew⟩)
theorem at_any {w : World} {b : Nat} {s : List UInt8} {at_ off : Nat} {err : Value} (h : Rd w b s at_ off err) (hs : off + at_ ≤ 9223372036854775807) :
    Calls Tryd.prog 27 #[.pointer (some ⟨b, 0, none⟩)] w fun e w' => e = .returned (.int .i64 ((off + at_ : Nat) : Int)) ∧ Below w.heap.size w w' := by
  obtain ⟨c0, c1, c2, c3, z1, z3, hlt⟩ := h
  go_enter Tryd.func27, Tryd.ntmps27
  go_wp2
  go_region
  all_goals (go_wp2; go_ret; exact ⟨ret_int (by omega), (Below.refl _ w).drew⟩)
theorem err_any {w : World} {b : Nat} {s : List UInt8} {at_ off : Nat} {err : Value} (h : Rd w b s at_ off err) :
    Calls Tryd.prog 26 #[.pointer (some ⟨b, 0, none⟩)] w fun e w' => e = .returned err ∧ w = w' := by
  obtain ⟨c0, c1, c2, c3, z1, z3, hlt⟩ := h
  go_enter Tryd.func26, Tryd.ntmps26
  go_wp2
  go_ret
  exact ⟨rfl, rfl⟩
/-- An error of kind *api.At: an Errno at a place. -/
def ErrAt (w : World) (v : Value) (e : Int) (place : Int) : Prop :=
  ∃ g, v = .iface 51 (.pointer (some ⟨g, 0, none⟩)) ∧ g < w.heap.size ∧ w.cell? ⟨g, 0, none⟩ = some (.int .i64 e) ∧ w.cell? ⟨g, 1, none⟩ = some (.int .i64 place)
theorem ErrAt.keep {w w' : World} {v : Value} {e p : Int} (h : ErrAt w v e p) (hb : Below w.heap.size w w') : ErrAt w' v e p := by
  obtain ⟨g, hv, hg, h0, h1⟩ := h
  exact ⟨g, hv, Nat.lt_of_lt_of_le hg hb.size, (hb.cell (p := ⟨g, 0, none⟩) hg).trans h0, (hb.cell (p := ⟨g, 1, none⟩) hg).trans h1⟩
theorem fail_had {w : World} {b : Nat} {s : List UInt8} {at_ off : Nat} {t : TypeId} {x : Value} (h : Rd w b s at_ off (.iface t x)) (e pl : Int) :
    Calls Tryd.prog 25 #[.pointer (some ⟨b, 0, none⟩), .int .i64 e, .int .i64 pl] w fun e w' => e = .returned (.tuple #[]) ∧ w = w' := by
  obtain ⟨c0, c1, c2, c3, z1, z3, hlt⟩ := h
  go_enter Tryd.func25, Tryd.ntmps25
  go_wp2
  go_returns
  exact ⟨rfl, rfl⟩
theorem fail_new {w : World} {b : Nat} {s : List UInt8} {at_ off : Nat} (h : Rd w b s at_ off .nilIface) (e pl : Int) :
    Calls Tryd.prog 25 #[.pointer (some ⟨b, 0, none⟩), .int .i64 e, .int .i64 pl] w fun r w' => r = .returned (.tuple #[]) ∧ Upd b w w' ∧ w.heap.size < w'.heap.size ∧
      Rd w' b s at_ off (.iface 51 (.pointer (some ⟨w.heap.size, 0, none⟩))) ∧ ErrAt w' (.iface 51 (.pointer (some ⟨w.heap.size, 0, none⟩))) e pl := by
  have hr := h
  obtain ⟨c0, c1, c2, c3, z1, z3, hlt⟩ := h
  have Hr := Lib.hid hr
  clear hr
  have hne : w.heap.size ≠ b := by omega
  go_enter Tryd.func25, Tryd.ntmps25
  go_wp2
  go_returns
  refine ⟨rfl, ((Upd.refl b w).setCell 3 _).alloc _, by simp [World.setCell], (Hr.out.setErr _).keep ((Below.refl _ _).alloc (Nat.le_refl _) _), ⟨w.heap.size, rfl, by simp [World.setCell], ?_, ?_⟩⟩
  · rw [cell_new _ _ _ _ _ _ (by simp [World.setCell])]; rfl
  · rw [cell_new _ _ _ _ _ _ (by simp [World.setCell])]; rfl
end Go.Proofs.YtjekdodboihfhaaDoor

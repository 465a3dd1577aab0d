/- Worlds by what a call owns in them: items with footprints, framed by the list. Over any program. wire.Reader: what it is in memory, and the walks of its methods. wire.Reader: Bytes. wire.Reader: Num. wire.Reader: Zeros. wire.Reader in every state: one contract a method, by what a call owns. The Reader's calls, their answers as letters. lacp: head, readSide, Read. -/
import Derived.Test.YteibhcocldihbaaDoorKit
import Derived.Test.YteibhcocldihbaaDoorZS1
import Derived.Test.YteibhcocldihbaaDoorRows
import Derived.Deep.LoopGhost
import Derived.Test.YteibhcocldihbaaDoorZS3
import Derived.Lib.BufferWrite
import Derived.Lib.SlBuf
set_option linter.all false
namespace Go.Proofs.YteibhcocldihbaaDoor
open Go.RowKit
/-- All blocks that were there, but those of gs, are as they were. -/
structure Fr (gs : List Nat) (w W : World) : Prop where
  os : W.os = w.os
  tape : W.tape = w.tape
  output : W.output = w.output
  size : w.heap.size ≤ W.heap.size
  block : ∀ k, k < w.heap.size → k ∉ gs → W.heap[k]? = w.heap[k]?
theorem Fr.refl (gs : List Nat) (w : World) : Fr gs w w := ⟨rfl, rfl, rfl, Nat.le_refl _, fun _ _ _ => rfl⟩
theorem Fr.trans {gs : List Nat} {w W X : World} (h : Fr gs w W) (k : Fr gs W X) : Fr gs w X :=
  ⟨k.os.trans h.os, k.tape.trans h.tape, k.output.trans h.output, Nat.le_trans h.size k.size, fun i hi hn => (k.block i (Nat.lt_of_lt_of_le hi h.size) hn).trans (h.block i hi hn)⟩
theorem Fr.of_below {w W : World} (h : Below w.heap.size w W) (gs : List Nat) : Fr gs w W := ⟨h.os, h.tape, h.output, h.size, fun i hi _ => h.block i hi⟩
theorem Fr.of_only {b : Nat} {w W : World} (h : Only b w W) {gs : List Nat} (hb : b ∈ gs) : Fr gs w W :=
  ⟨h.os, h.tape, h.output, by rw [h.size]; exact Nat.le_refl _, fun i hi hn => h.block i (fun e => hn (by rw [e]; exact hb))⟩
theorem Fr.setCell (b o : Nat) (v : Value) (w : World) {gs : List Nat} (hb : b ∈ gs) : Fr gs w (w.setCell ⟨b, o, none⟩ v) :=
  ⟨rfl, rfl, rfl, by simp [World.setCell], fun i _ hn => Below.heap_setCell _ _ _ _ (fun e => hn (by subst e; exact hb))⟩
theorem Fr.ext {gs : List Nat} {w W X : World} (h : Fr gs w W) (hb : Below W.heap.size W X) : Fr gs w X := h.trans (Fr.of_below hb gs)
theorem Fr.blk {gs : List Nat} {w W : World} (h : Fr gs w W) {g : Nat} {t : TypeId} {L : List Value} (hB : Blk w g t L) (hg : g ∉ gs) : Blk W g t L := (h.block g hB.lt hg).trans hB
theorem Fr.cell {gs : List Nat} {w W : World} (h : Fr gs w W) {g : Nat} (hg : g ∉ gs) (hl : g < w.heap.size) (o : Nat) : W.cell? ⟨g, o, none⟩ = w.cell? ⟨g, o, none⟩ := World.cell?_of_block (w := w) (a := ⟨g, o, none⟩) (h.block g hl hg)
/-- An item: blocks, and what is known of them. -/
structure It where
  gs : List Nat
  P : World → Prop
  lt : ∀ w, P w → ∀ g ∈ gs, g < w.heap.size
  loc : ∀ w W : World, (∀ g ∈ gs, W.heap[g]? = w.heap[g]?) → w.heap.size ≤ W.heap.size → P w → P W
/-- The world w, of which blocks from B on are ours, as the items say; what w0 had below B is as it was. -/
structure St (B : Nat) (w0 w : World) (A : List It) : Prop where
  below : Below B w0 w
  base : B ≤ w0.heap.size
  own : ∀ k ∈ A, k.P w
  low : ∀ k ∈ A, ∀ g ∈ k.gs, B ≤ g
  apart : A.Pairwise fun x y => ∀ g ∈ x.gs, g ∉ y.gs
theorem St.init (w : World) : St w.heap.size w w [] := ⟨Below.refl _ _, Nat.le_refl _, (fun _ h => by cases h), (fun _ h => by cases h), List.Pairwise.nil⟩
theorem St.le {B : Nat} {w0 w : World} {A : List It} (h : St B w0 w A) : B ≤ w.heap.size := Nat.le_trans h.base h.below.size
theorem St.step {B : Nat} {w0 w W : World} {A : List It} {k k' : It} (h : St B w0 w (k :: A)) (hf : Fr k.gs w W) (hk : k'.P W) (hg : ∀ g ∈ k'.gs, g ∈ k.gs ∨ w.heap.size ≤ g) : St B w0 W (k' :: A) := by
  have hb := h.le
  have hap := List.pairwise_cons.1 h.apart
  have hlow := h.low k (List.mem_cons_self ..)
  have hin : ∀ x ∈ A, ∀ g ∈ x.gs, g < w.heap.size ∧ g ∉ k.gs := fun x hx g hg => ⟨x.lt w (h.own x (List.mem_cons_of_mem _ hx)) g hg, fun hk => hap.1 x hx g hk hg⟩
  refine ⟨⟨hf.os.trans h.below.os, hf.tape.trans h.below.tape, hf.output.trans h.below.output, Nat.le_trans h.below.size hf.size, fun i hi => (hf.block i (by omega) (fun hm => by have := hlow i hm; omega)).trans (h.below.block i hi)⟩, h.base, ?_, ?_, ?_⟩
  · intro x hx
    rcases List.mem_cons.1 hx with rfl | hx
    · exact hk
    · exact x.loc w W (fun g hg => hf.block g (hin x hx g hg).1 (hin x hx g hg).2) hf.size (h.own x (List.mem_cons_of_mem _ hx))
  · intro x hx g hgx
    rcases List.mem_cons.1 hx with rfl | hx
    · rcases hg g hgx with h1 | h1
      · exact hlow g h1
      · omega
    · exact h.low x (List.mem_cons_of_mem _ hx) g hgx
  · refine List.pairwise_cons.2 ⟨fun x hx g hgk hgx => ?_, hap.2⟩
    rcases hg g hgk with h1 | h1
    · exact hap.1 x hx g h1 hgx
    · have := (hin x hx g hgx).1; omega
theorem St.ext {B : Nat} {w0 w W : World} {A : List It} (h : St B w0 w A) (hb : Below w.heap.size w W) : St B w0 W A := by
  have hle := h.le
  refine ⟨h.below.trans (hb.mono hle), h.base, fun x hx => ?_, h.low, h.apart⟩
  exact x.loc w W (fun g hg => hb.block g (x.lt w (h.own x hx) g hg)) hb.size (h.own x hx)
theorem St.add {B : Nat} {w0 w W : World} {A : List It} {k : It} (h : St B w0 w A) (hb : Below w.heap.size w W) (hk : k.P W) (hg : ∀ g ∈ k.gs, w.heap.size ≤ g) : St B w0 W (k :: A) := by
  have hle := h.le
  have h2 := h.ext hb
  refine ⟨h2.below, h2.base, fun x hx => ?_, fun x hx g hgx => ?_, List.pairwise_cons.2 ⟨fun x hx g hgk hgx => ?_, h.apart⟩⟩
  · rcases List.mem_cons.1 hx with rfl | hx
    · exact hk
    · exact h2.own x hx
  · rcases List.mem_cons.1 hx with rfl | hx
    · have := hg g hgx; omega
    · exact h.low x hx g hgx
  · have h3 := hg g hgk
    have h4 := x.lt w (h.own x hx) g hgx
    omega
theorem St.sub {B : Nat} {w0 w : World} {A A' : List It} (h : St B w0 w A) (hs : A'.Sublist A) : St B w0 w A' :=
  ⟨h.below, h.base, fun k hk => h.own k (hs.subset hk), fun k hk => h.low k (hs.subset hk), h.apart.sublist hs⟩
theorem St.tail {B : Nat} {w0 w : World} {A : List It} {k : It} (h : St B w0 w (k :: A)) : St B w0 w A := h.sub (List.sublist_cons_self ..)
theorem St.perm {B : Nat} {w0 w : World} {A A' : List It} (h : St B w0 w A) (hp : A.Perm A') : St B w0 w A' :=
  ⟨h.below, h.base, fun k hk => h.own k (hp.mem_iff.2 hk), fun k hk => h.low k (hp.mem_iff.2 hk), h.apart.perm hp (fun hxy g hy hx => hxy g hx hy)⟩
theorem St.swap {B : Nat} {w0 w : World} {A : List It} {x y : It} (h : St B w0 w (x :: y :: A)) : St B w0 w (y :: x :: A) := h.perm (List.Perm.swap ..)
theorem St.rot3 {B : Nat} {w0 w : World} {A : List It} {x y z : It} (h : St B w0 w (x :: y :: z :: A)) : St B w0 w (z :: x :: y :: A) :=
  h.perm (((List.Perm.swap z y A).cons x).trans (List.Perm.swap z x (y :: A)))
theorem St.head {B : Nat} {w0 w : World} {A : List It} {k : It} (h : St B w0 w (k :: A)) : k.P w := h.own k (List.mem_cons_self ..)
theorem St.drew {B : Nat} {w0 w : World} {A : List It} (h : St B w0 w A) : St B w0 w.drew A := h.ext ((Below.refl _ _).drew)
theorem St.drewN {B : Nat} {w0 w : World} {A : List It} (h : St B w0 w A) (n : Nat) : St B w0 (w.drewN n) A := h.ext (below_drewN (Below.refl _ _) n)
/-- A block known whole. -/
def bk (g : Nat) (t : TypeId) (L : List Value) : It where
  gs := [g]
  P w := Blk w g t L
  lt w h x hx := by rw [List.mem_singleton.1 hx]; exact h.lt
  loc w W h _ hp := (h g (List.mem_singleton.2 rfl)).trans hp
theorem St.alloc {B : Nat} {w0 w : World} {A : List It} (h : St B w0 w A) (L : List Value) (t : TypeId) : St B w0 (w.alloc (.cells L.toArray t)) (bk w.heap.size t L :: A) :=
  h.add ((Below.refl _ _).alloc (Nat.le_refl _) _) (Blk.new w L t) (fun g hg => by rw [List.mem_singleton.1 hg]; exact Nat.le_refl _)
theorem St.set {B : Nat} {w0 w : World} {A : List It} {g : Nat} {t : TypeId} {L : List Value} (h : St B w0 w (bk g t L :: A)) (o : Nat) (v : Value) (ho : o < L.length) : St B w0 (w.setCell ⟨g, o, none⟩ v) (bk g t (L.set o v) :: A) := by
  refine h.step (Fr.setCell g o v w (List.mem_singleton.2 rfl)) ?_ (fun x hx => .inl hx)
  show Blk _ g t _
  have hB : Blk w g t L := h.head
  have := heap_setCell_same w g o L.toArray t v hB
  unfold Blk
  rw [this]
  congr 2
  simp
theorem St.sets {B : Nat} {w0 w W : World} {A : List It} {g : Nat} {t : TypeId} {L L' : List Value} (h : St B w0 w (bk g t L :: A)) (hL : Blk W g t L') (ho : Only g w W) : St B w0 W (bk g t L' :: A) :=
  h.step (Fr.of_only ho (List.mem_singleton.2 rfl)) hL (fun x hx => .inl hx)
theorem St.cell {B : Nat} {w0 w : World} {A : List It} {g : Nat} {t : TypeId} {L : List Value} (h : St B w0 w (bk g t L :: A)) (o : Nat) : w.cell? ⟨g, o, none⟩ = L.toArray[o]? := (Blk.box h.head).cell o
theorem St.frozen {B : Nat} {w0 w : World} {A : List It} {g : Nat} {t : TypeId} {L : List Value} (h : St B w0 w (bk g t L :: A)) (o : Nat) : w.frozen? ⟨g, o, none⟩ = false := (Blk.box h.head).frozen o
theorem St.at {B : Nat} {w0 w : World} {A : List It} (h : St B w0 w A) (i : Nat) {g : Nat} {t : TypeId} {L : List Value} (hi : A[i]? = some (bk g t L)) : Blk w g t L := h.own _ (List.mem_of_getElem? hi)
theorem St.ne {B : Nat} {w0 w : World} {A : List It} {x y : It} (h : St B w0 w (x :: y :: A)) : ∀ g ∈ x.gs, g ∉ y.gs := (List.pairwise_cons.1 h.apart).1 y (List.mem_cons_self ..)
theorem Below.left {w0 w : World} {B : Nat} {A : List It} (h : St B w0 w A) : Below B w0 w := h.below
theorem St.dis {B : Nat} {w0 w : World} {A : List It} (h : St B w0 w A) (i j : Nat) (hij : i < j) {x y : It} (hx : A[i]? = some x) (hy : A[j]? = some y) : ∀ g ∈ x.gs, g ∉ y.gs := by
  obtain ⟨hi, rfl⟩ := List.getElem?_eq_some_iff.1 hx
  obtain ⟨hj, rfl⟩ := List.getElem?_eq_some_iff.1 hy
  exact (List.pairwise_iff_getElem.1 h.apart) i j hi hj hij
theorem perm_pull : ∀ (A : List It) (i : Nat) (hi : i < A.length), (A[i] :: A.eraseIdx i).Perm A
  | [], _, h => absurd h (by simp)
  | _ :: _, 0, _ => List.Perm.refl _
  | x :: A, i + 1, h => (List.Perm.swap x (A[i]'(by simpa using h)) (A.eraseIdx i)).trans ((perm_pull A i (by simpa using h)).cons x)
/-- An item is drawn to the front. -/
theorem St.pull {B : Nat} {w0 w : World} {A : List It} (h : St B w0 w A) (i : Nat) {x : It} (hx : A[i]? = some x) : St B w0 w (x :: A.eraseIdx i) := by
  obtain ⟨hi, rfl⟩ := List.getElem?_eq_some_iff.1 hx
  exact h.perm (perm_pull A i hi).symm
theorem St.alloc2 {B : Nat} {w0 w : World} {A : List It} (h : St B w0 w A) (L1 L2 : List Value) (t1 t2 : TypeId) : St B w0 ((w.alloc (.cells L1.toArray t1)).alloc (.cells L2.toArray t2)) (bk (w.heap.size + 1) t2 L2 :: bk w.heap.size t1 L1 :: A) := by
  have := (h.alloc L1 t1).alloc L2 t2
  simpa using this
theorem St.alloc3 {B : Nat} {w0 w : World} {A : List It} (h : St B w0 w A) (L1 L2 L3 : List Value) (t1 t2 t3 : TypeId) : St B w0 (((w.alloc (.cells L1.toArray t1)).alloc (.cells L2.toArray t2)).alloc (.cells L3.toArray t3)) (bk (w.heap.size + 1 + 1) t3 L3 :: bk (w.heap.size + 1) t2 L2 :: bk w.heap.size t1 L1 :: A) := by
  have := (h.alloc2 L1 L2 t1 t2).alloc L3 t3
  simpa using this
theorem St.alloc4 {B : Nat} {w0 w : World} {A : List It} (h : St B w0 w A) (L1 L2 L3 L4 : List Value) (t1 t2 t3 t4 : TypeId) : St B w0 ((((w.alloc (.cells L1.toArray t1)).alloc (.cells L2.toArray t2)).alloc (.cells L3.toArray t3)).alloc (.cells L4.toArray t4)) (bk (w.heap.size + 1 + 1 + 1) t4 L4 :: bk (w.heap.size + 1 + 1) t3 L3 :: bk (w.heap.size + 1) t2 L2 :: bk w.heap.size t1 L1 :: A) := by
  have := (h.alloc3 L1 L2 L3 t1 t2 t3).alloc L4 t4
  simpa using this
/-- One of the rows in a block at a place, by number. -/
theorem St.item {B : Nat} {w0 w : World} {A : List It} (h : St B w0 w A) {k : It} (hk : k ∈ A) : k.P w := h.own k hk
end Go.Proofs.YteibhcocldihbaaDoor
namespace Go.Proofs.YteibhcocldihbaaDoor
open Go.RowKit
/-- Of what was there only block b may have turned. -/
structure Upd (b : Nat) (w w' : World) : Prop where
  os : w'.os = w.os
  tape : w'.tape = w.tape
  output : w'.output = w.output
  size : w.heap.size ≤ w'.heap.size
  block : ∀ k, k < w.heap.size → k ≠ b → w'.heap[k]? = w.heap[k]?
theorem Upd.refl (b : Nat) (w : World) : Upd b w w := ⟨rfl, rfl, rfl, Nat.le_refl _, fun _ _ _ => rfl⟩
theorem Upd.trans {b : Nat} {w1 w2 w3 : World} (h : Upd b w1 w2) (k : Upd b w2 w3) : Upd b w1 w3 :=
  ⟨k.os.trans h.os, k.tape.trans h.tape, k.output.trans h.output, Nat.le_trans h.size k.size, fun i hi hne => (k.block i (Nat.lt_of_lt_of_le hi h.size) hne).trans (h.block i hi hne)⟩
theorem Upd.of_below {w w' : World} (h : Below w.heap.size w w') (b : Nat) : Upd b w w' := ⟨h.os, h.tape, h.output, h.size, fun i hi _ => h.block i hi⟩
theorem Upd.setCell {w w' : World} {b : Nat} (h : Upd b w w') (o : Nat) (v : Value) : Upd b w (w'.setCell ⟨b, o, none⟩ v) :=
  ⟨h.os, h.tape, h.output, by simpa [World.setCell] using h.size, fun i hi hne => (Below.heap_setCell _ _ _ _ hne).trans (h.block i hi hne)⟩
theorem Upd.drew {w w' : World} {b : Nat} (h : Upd b w w') : Upd b w w'.drew := ⟨h.os, h.tape, h.output, h.size, h.block⟩
theorem Upd.alloc {w w' : World} {b : Nat} (h : Upd b w w') (o : Obj) : Upd b w (w'.alloc o) :=
  ⟨h.os, h.tape, h.output, Nat.le_trans h.size (by simp), fun i hi hne => (Below.heap_alloc _ _ _ (Nat.lt_of_lt_of_le hi h.size)).trans (h.block i hi hne)⟩
theorem Upd.below {B b : Nat} {w w' : World} (h : Upd b w w') (hB : B ≤ b) (hs : B ≤ w.heap.size) : Below B w w' :=
  ⟨h.os, h.tape, h.output, h.size, fun k hk => h.block k (by omega) (by omega)⟩
theorem Upd.cell {b : Nat} {w w' : World} (h : Upd b w w') {p : Addr} (hp : p.block < w.heap.size) (hne : p.block ≠ b) : w'.cell? p = w.cell? p := World.cell?_of_block (w := w) (h.block p.block hp hne)
theorem Upd.frozen {b : Nat} {w w' : World} (h : Upd b w w') {p : Addr} (hp : p.block < w.heap.size) (hne : p.block ≠ b) : w'.frozen? p = w.frozen? p := World.frozen?_of_block (w := w) (h.block p.block hp hne)

theorem CellsAt.other {w w' : World} {b B : Nat} {C : List Value} (h : CellsAt w B C) (hu : Upd b w w') (hlt : B < w.heap.size) (hne : B ≠ b) : CellsAt w' B C :=
  fun i hi => ⟨(hu.cell (p := ⟨B, i, none⟩) hlt hne).trans (h i hi).1, (hu.frozen (p := ⟨B, i, none⟩) hlt hne).trans (h i hi).2⟩
/-- A Reader in block b: its text, its place, its offset, its error. -/
structure Rd (w : World) (b : Nat) (s : List UInt8) (at_ off : Nat) (err : Value) : Prop where
  c0 : w.cell? ⟨b, 0, none⟩ = some (.string ⟨s.toArray⟩)
  c1 : w.cell? ⟨b, 1, none⟩ = some (.int .i64 (at_ : Int))
  c2 : w.cell? ⟨b, 2, none⟩ = some (.int .i64 (off : Int))
  c3 : w.cell? ⟨b, 3, none⟩ = some err
  z1 : w.frozen? ⟨b, 1, none⟩ = false
  z3 : w.frozen? ⟨b, 3, none⟩ = false
  lt : b < w.heap.size
theorem Rd.below {w w' : World} {b B : Nat} {s : List UInt8} {at_ off : Nat} {err : Value} (h : Rd w b s at_ off err) (hb : Below B w w') (hB : b < B) : Rd w' b s at_ off err :=
  ⟨(hb.cell (p := ⟨b, 0, none⟩) hB).trans h.c0, (hb.cell (p := ⟨b, 1, none⟩) hB).trans h.c1, (hb.cell (p := ⟨b, 2, none⟩) hB).trans h.c2, (hb.cell (p := ⟨b, 3, none⟩) hB).trans h.c3,
    (hb.frozen (p := ⟨b, 1, none⟩) hB).trans h.z1, (hb.frozen (p := ⟨b, 3, none⟩) hB).trans h.z3, Nat.lt_of_lt_of_le h.lt hb.size⟩
theorem Rd.keep {w w' : World} {b : Nat} {s : List UInt8} {at_ off : Nat} {err : Value} (h : Rd w b s at_ off err) (hb : Below w.heap.size w w') : Rd w' b s at_ off err := h.below hb h.lt
theorem Rd.other {w w' : World} {b b' : Nat} {s : List UInt8} {at_ off : Nat} {err : Value} (h : Rd w b s at_ off err) (hu : Upd b' w w') (hne : b ≠ b') : Rd w' b s at_ off err :=
  ⟨(hu.cell (p := ⟨b, 0, none⟩) h.lt hne).trans h.c0, (hu.cell (p := ⟨b, 1, none⟩) h.lt hne).trans h.c1, (hu.cell (p := ⟨b, 2, none⟩) h.lt hne).trans h.c2, (hu.cell (p := ⟨b, 3, none⟩) h.lt hne).trans h.c3,
    (hu.frozen (p := ⟨b, 1, none⟩) h.lt hne).trans h.z1, (hu.frozen (p := ⟨b, 3, none⟩) h.lt hne).trans h.z3, Nat.lt_of_lt_of_le h.lt hu.size⟩
theorem Rd.setAt {w : World} {b : Nat} {s : List UInt8} {at_ off : Nat} {err : Value} (h : Rd w b s at_ off err) (n : Nat) : Rd (w.setCell ⟨b, 1, none⟩ (.int .i64 (n : Int))) b s n off err :=
  ⟨(World.cell?_setCell_other _ _ _ _ (by simp)).trans h.c0, World.cell?_setCell_same _ _ _ (by rw [h.c1]), (World.cell?_setCell_other _ _ _ _ (by simp)).trans h.c2, (World.cell?_setCell_other _ _ _ _ (by simp)).trans h.c3,
    (World.frozen?_setCell _ _ _ _).trans h.z1, (World.frozen?_setCell _ _ _ _).trans h.z3, by simpa [World.setCell] using h.lt⟩
theorem Rd.drew {w : World} {b : Nat} {s : List UInt8} {at_ off : Nat} {err : Value} (h : Rd w b s at_ off err) : Rd w.drew b s at_ off err := ⟨h.c0, h.c1, h.c2, h.c3, h.z1, h.z3, h.lt⟩
theorem Rd.setAt' {w : World} {b : Nat} {s : List UInt8} {at_ off : Nat} {err : Value} (h : Rd w b s at_ off err) {n : Nat} {v : Int} (hv : v = n) : Rd (w.setCell ⟨b, 1, none⟩ (.int .i64 v)) b s n off err := by
  subst hv; exact h.setAt n
theorem Rd.setErr {w : World} {b : Nat} {s : List UInt8} {at_ off : Nat} {err : Value} (h : Rd w b s at_ off err) (v : Value) : Rd (w.setCell ⟨b, 3, none⟩ v) b s at_ off v :=
  ⟨(World.cell?_setCell_other _ _ _ _ (by simp)).trans h.c0, (World.cell?_setCell_other _ _ _ _ (by simp)).trans h.c1, (World.cell?_setCell_other _ _ _ _ (by simp)).trans h.c2, World.cell?_setCell_same _ _ _ (by rw [h.c3]),
    (World.frozen?_setCell _ _ _ _).trans h.z1, (World.frozen?_setCell _ _ _ _).trans h.z3, by simpa [World.setCell] using h.lt⟩

theorem new_any (s : List UInt8) (off : Nat) (w : World) :
    Calls Tryd.prog 47 #[.string ⟨s.toArray⟩, .int .i64 (off : Int)] w fun e w' => e = .returned (.pointer (some ⟨w.heap.size, 0, none⟩)) ∧ Rd w' w.heap.size s 0 off .nilIface ∧ Below w.heap.size w w' ∧ w.heap.size < w'.heap.size := by
  go_enter Tryd.func47, Tryd.ntmps47
  go_wp2
  go_ret
  refine ⟨rfl, ⟨?_, ?_, ?_, ?_, ?_, ?_, ?_⟩, (Below.refl _ w).alloc (Nat.le_refl _) _, by simp⟩
  all_goals first | (rw [World.cell?_alloc_mark]; rfl) | (rw [World.frozen?_alloc_mark]; rfl) | simp
theorem left_any {w : World} {b : Nat} {s : List UInt8} {at_ off : Nat} {err : Value} (h : Rd w b s at_ off err) (ha : at_ ≤ s.length) (hs : s.length ≤ 9223372036854775807) :
    Calls Tryd.prog 77 #[.pointer (some ⟨b, 0, none⟩)] w fun e w' => e = .returned (.int .i64 ((s.length - at_ : Nat) : Int)) ∧ Below w.heap.size w w' := by
  obtain ⟨c0, c1, c2, c3, z1, z3, hlt⟩ := h
  go_enter Tryd.func77, Tryd.ntmps77
  go_wp2
  go_region
  all_goals (go_wp2; go_ret; exact ⟨ret_int (by omega), (Below.refl _ w).drew⟩)
theorem at_any {w : World} {b : Nat} {s : List UInt8} {at_ off : Nat} {err : Value} (h : Rd w b s at_ off err) (hs : off + at_ ≤ 9223372036854775807) :
    Calls Tryd.prog 49 #[.pointer (some ⟨b, 0, none⟩)] w fun e w' => e = .returned (.int .i64 ((off + at_ : Nat) : Int)) ∧ Below w.heap.size w w' := by
  obtain ⟨c0, c1, c2, c3, z1, z3, hlt⟩ := h
  go_enter Tryd.func49, Tryd.ntmps49
  go_wp2
  go_region
  all_goals (go_wp2; go_ret; exact ⟨ret_int (by omega), (Below.refl _ w).drew⟩)
theorem err_any {w : World} {b : Nat} {s : List UInt8} {at_ off : Nat} {err : Value} (h : Rd w b s at_ off err) :
    Calls Tryd.prog 51 #[.pointer (some ⟨b, 0, none⟩)] w fun e w' => e = .returned err ∧ w = w' := by
  obtain ⟨c0, c1, c2, c3, z1, z3, hlt⟩ := h
  go_enter Tryd.func51, Tryd.ntmps51
  go_wp2
  go_ret
  exact ⟨rfl, rfl⟩
/-- An error of kind *api.At: an Errno at a place. -/
def ErrAt (w : World) (v : Value) (e : Int) (place : Int) : Prop :=
  ∃ g, v = .iface 130 (.pointer (some ⟨g, 0, none⟩)) ∧ g < w.heap.size ∧ w.cell? ⟨g, 0, none⟩ = some (.int .i64 e) ∧ w.cell? ⟨g, 1, none⟩ = some (.int .i64 place)
theorem ErrAt.keep {w w' : World} {v : Value} {e p : Int} (h : ErrAt w v e p) (hb : Below w.heap.size w w') : ErrAt w' v e p := by
  obtain ⟨g, hv, hg, h0, h1⟩ := h
  exact ⟨g, hv, Nat.lt_of_lt_of_le hg hb.size, (hb.cell (p := ⟨g, 0, none⟩) hg).trans h0, (hb.cell (p := ⟨g, 1, none⟩) hg).trans h1⟩
theorem fail_had {w : World} {b : Nat} {s : List UInt8} {at_ off : Nat} {t : TypeId} {x : Value} (h : Rd w b s at_ off (.iface t x)) (e pl : Int) :
    Calls Tryd.prog 52 #[.pointer (some ⟨b, 0, none⟩), .int .i64 e, .int .i64 pl] w fun e w' => e = .returned (.tuple #[]) ∧ w = w' := by
  obtain ⟨c0, c1, c2, c3, z1, z3, hlt⟩ := h
  go_enter Tryd.func52, Tryd.ntmps52
  go_wp2
  go_returns
  exact ⟨rfl, rfl⟩
theorem fail_new {w : World} {b : Nat} {s : List UInt8} {at_ off : Nat} (h : Rd w b s at_ off .nilIface) (e pl : Int) :
    Calls Tryd.prog 52 #[.pointer (some ⟨b, 0, none⟩), .int .i64 e, .int .i64 pl] w fun r w' => r = .returned (.tuple #[]) ∧ Upd b w w' ∧ w.heap.size < w'.heap.size ∧
      Rd w' b s at_ off (.iface 130 (.pointer (some ⟨w.heap.size, 0, none⟩))) ∧ ErrAt w' (.iface 130 (.pointer (some ⟨w.heap.size, 0, none⟩))) e pl := by
  have hr := h
  obtain ⟨c0, c1, c2, c3, z1, z3, hlt⟩ := h
  have Hr := Lib.hid hr
  clear hr
  have hne : w.heap.size ≠ b := by omega
  go_enter Tryd.func52, Tryd.ntmps52
  go_wp2
  go_returns
  refine ⟨rfl, ((Upd.refl b w).setCell 3 _).alloc _, by simp [World.setCell], (Hr.out.setErr _).keep ((Below.refl _ _).alloc (Nat.le_refl _) _), ⟨w.heap.size, rfl, by simp [World.setCell], ?_, ?_⟩⟩
  · rw [cell_new _ _ _ _ _ _ (by simp [World.setCell])]; rfl
  · rw [cell_new _ _ _ _ _ _ (by simp [World.setCell])]; rfl
end Go.Proofs.YteibhcocldihbaaDoor
namespace Go.Proofs.YteibhcocldihbaaDoor
open Go.RowKit
/-- The Reader has noted an error, where nothing else of it has turned. -/
def SomeErr (w : World) (b : Nat) (s : List UInt8) (at_ off : Nat) (e p : Int) : Prop := ∃ v, Rd w b s at_ off v ∧ ErrAt w v e p
theorem SomeErr.keep {w w' : World} {b : Nat} {s : List UInt8} {at_ off : Nat} {e p : Int} (h : SomeErr w b s at_ off e p) (hb : Below w.heap.size w w') : SomeErr w' b s at_ off e p := by
  obtain ⟨v, h1, h2⟩ := h
  exact ⟨v, h1.keep hb, h2.keep hb⟩
theorem bytes_had {w : World} {b : Nat} {s : List UInt8} {at_ off : Nat} {t : TypeId} {x : Value} (h : Rd w b s at_ off (.iface t x)) (n : Int) :
    Calls Tryd.prog 53 #[.pointer (some ⟨b, 0, none⟩), .int .i64 n] w fun e w' => e = .returned (.string ⟨#[]⟩) ∧ Below w.heap.size w w' := by
  obtain ⟨c0, c1, c2, c3, z1, z3, hlt⟩ := h
  go_enter Tryd.func53, Tryd.ntmps53
  go_wp2_with fail
  go_ret
  exact ⟨rfl, Below.refl _ _⟩
set_option maxHeartbeats 400000 in
theorem bytes_ok {w : World} {b : Nat} {s : List UInt8} {at_ off : Nat} (h : Rd w b s at_ off .nilIface) (n : Nat) (hn : at_ + n ≤ s.length) (hs : s.length ≤ 9223372036854775807) :
    Calls Tryd.prog 53 #[.pointer (some ⟨b, 0, none⟩), .int .i64 (n : Int)] w fun e w' => e = .returned (.string ⟨((s.drop at_).take n).toArray⟩) ∧ Rd w' b s (at_ + n) off .nilIface ∧ Upd b w w' := by
  have hr := h
  obtain ⟨c0, c1, c2, c3, z1, z3, hlt⟩ := h
  have Hr := Lib.hid hr
  clear hr
  go_enter Tryd.func53, Tryd.ntmps53
  go_wp2_with fail
  refine (left_any Hr.out (by omega) (by omega)).mono ?_
  rintro e w1 ⟨rfl, hb1⟩
  have Hr1 := Lib.hid (Hr.out.keep hb1)
  obtain ⟨d0, d1, d2, d3, y1, y3, hlt1⟩ := Hr1.out
  clear c0 c1 c2 c3 z1 z3
  go_wp2_with fail
  have hw1 : IntKind.i64.wrap (at_ : Int) = at_ := IntWalk.i64_in _ (by omega)
  have hsl := cut_ab (P := Tryd.prog) 9 Tryd.underlying9 s (at_ : Int) ((at_ : Int) + (n : Int)) (by omega) (by omega) (by omega)
  rw [show ((at_ : Int) + (n : Int)).toNat = at_ + n by omega, Int.toNat_natCast, drop_take_add] at hsl
  go_region
  all_goals
    go_wp2_with fail
    go_ret
    have hw : Below w.heap.size w w1 := hb1
    refine ⟨?_, ?_, ?_⟩
    · rfl
    · exact (Hr1.out.setAt' (by omega)).drew
    · exact (((Upd.of_below hb1 b).setCell 1 _).drew)
theorem bytes_fail {w : World} {b : Nat} {s : List UInt8} {at_ off : Nat} (h : Rd w b s at_ off .nilIface) (n : Int) (ha : at_ ≤ s.length) (hn : n < 0 ∨ (s.length : Int) - at_ < n) (hs : off + s.length ≤ 9223372036854775807) :
    Calls Tryd.prog 53 #[.pointer (some ⟨b, 0, none⟩), .int .i64 n] w fun e w' => e = .returned (.string ⟨#[]⟩) ∧ Upd b w w' ∧ SomeErr w' b s at_ off (if n < 0 then 2 else 7) ((off + at_ : Nat) : Int) := by
  have Hr := Lib.hid h
  obtain ⟨c0, c1, c2, c3, z1, z3, hlt⟩ := h
  by_cases hneg : n < 0
  · rw [if_pos hneg]
    clear hn
    go_enter Tryd.func53, Tryd.ntmps53
    go_wp2_with fail
    refine (at_any Hr.out (by omega)).mono ?_
    rintro e w1 ⟨rfl, hb1⟩
    have Hr1 := Lib.hid (Hr.out.keep hb1)
    clear c0 c1 c2 c3 z1 z3
    go_wp2_with fail
    refine (fail_new Hr1.out 2 _).mono ?_
    rintro e w2 ⟨rfl, hu, hlt2, hr2, he2⟩
    have Hr2 := Lib.hid hr2
    have He2 := Lib.hid he2
    clear hr2 he2
    go_wp2_with fail
    go_ret
    exact ⟨rfl, (Upd.of_below hb1 b).trans hu, _, Hr2.out, He2.out⟩
  · rw [if_neg hneg]
    have hn2 : (s.length : Int) - at_ < n := by omega
    obtain ⟨m, rfl⟩ := Int.eq_ofNat_of_zero_le (show 0 ≤ n by omega)
    clear hn
    go_enter Tryd.func53, Tryd.ntmps53
    go_wp2_with fail
    refine (left_any Hr.out (by omega) (by omega)).mono ?_
    rintro e w0 ⟨rfl, hb0⟩
    have Hr0 := Lib.hid (Hr.out.keep hb0)
    clear c0 c1 c2 c3 z1 z3
    go_wp2_with fail
    refine (at_any Hr0.out (by omega)).mono ?_
    rintro e w1 ⟨rfl, hb1⟩
    have Hr1 := Lib.hid (Hr0.out.keep hb1)
    go_wp2_with fail
    refine (fail_new Hr1.out 7 _).mono ?_
    rintro e w2 ⟨rfl, hu, hlt2, hr2, he2⟩
    have Hr2 := Lib.hid hr2
    have He2 := Lib.hid he2
    clear hr2 he2
    go_wp2_with fail
    go_ret
    exact ⟨rfl, (Upd.of_below (hb0.trans (hb1.mono hb0.size)) b).trans hu, _, Hr2.out, He2.out⟩
end Go.Proofs.YteibhcocldihbaaDoor
namespace Go.Proofs.YteibhcocldihbaaDoor
open Go.RowKit
theorem ofInt_i64 (a : Nat) (ha : a < 9223372036854775808) : (BitVec.ofInt 64 (a : Int)).toNat = a := by
  rw [BitVec.ofInt_natCast, BitVec.toNat_ofNat]; exact Nat.mod_eq_of_lt (by omega)
theorem i64_or_nat (a b : Nat) (ha : a < 9223372036854775808) (hb : b < 9223372036854775808) : bits .or .i64 (a : Int) (b : Int) = ((a ||| b : Nat) : Int) := by
  have hx : a ||| b < 2 ^ 63 := Nat.or_lt_two_pow (by omega) (by omega)
  show IntKind.i64.wrap ((BitVec.ofInt 64 (a : Int) ||| BitVec.ofInt 64 (b : Int)).toNat : Int) = _
  rw [BitVec.toNat_or, ofInt_i64 a ha, ofInt_i64 b hb, IntKind.wrap_i64]
  omega
theorem or_byte (x : Nat) (c : UInt8) (hx : x < 36028797018963968) : bits .or .i64 ((x : Int) * 256) (c.toNat : Int) = ((256 * x + c.toNat : Nat) : Int) := by
  have h := i64_or_nat (x * 256) c.toNat (by omega) (by have := c.toNat_lt; omega)
  rw [nat_join 8 (x * 256) c.toNat (by omega) c.toNat_lt] at h
  rw [show ((x * 256 : Nat) : Int) = (x : Int) * 256 by omega] at h
  rw [h]; omega
theorem num_had {w : World} {b : Nat} {s : List UInt8} {at_ off : Nat} {t : TypeId} {x : Value} (h : Rd w b s at_ off (.iface t x)) (n : Int) :
    Calls Tryd.prog 50 #[.pointer (some ⟨b, 0, none⟩), .int .i64 n] w fun e w' => e = .returned (.int .i64 0) ∧ Below w.heap.size w w' := by
  have Hr := Lib.hid h
  obtain ⟨c0, c1, c2, c3, z1, z3, hlt⟩ := h
  go_enter Tryd.func50, Tryd.ntmps50
  go_wp2_with fail
  refine (bytes_had Hr.out _).mono ?_
  rintro e w1 ⟨rfl, hb1⟩
  obtain ⟨cap, w2, hcap, hcv, hb2, hz2, hx2⟩ := conv_bytesL (P := Tryd.prog) w1 9 90 5 [] Tryd.underlying9 Tryd.underlying90 Tryd.underlying5
  simp only [List.length_nil] at hcv
  clear hx2
  go_wp2_with fail
  refine wp_loop_once ?_
  go_wp2_with fail
  go_ret
  exact ⟨rfl, hb1.trans (hb2.mono hb1.size)⟩
set_option maxRecDepth 100000 in
set_option maxHeartbeats 400000 in
theorem num_ok {w : World} {b : Nat} {s : List UInt8} {at_ off : Nat} (h : Rd w b s at_ off .nilIface) (n : Nat) (h1 : 1 ≤ n) (h7 : n ≤ 7) (hn : at_ + n ≤ s.length) (hs : s.length ≤ 9223372036854775807) :
    Calls Tryd.prog 50 #[.pointer (some ⟨b, 0, none⟩), .int .i64 (n : Int)] w fun e w' => e = .returned (.int .i64 (beNum ((s.drop at_).take n) : Nat)) ∧ Rd w' b s (at_ + n) off .nilIface ∧ Upd b w w' := by
  have Hr := Lib.hid h
  obtain ⟨c0, c1, c2, c3, z1, z3, hlt⟩ := h
  go_enter Tryd.func50, Tryd.ntmps50
  go_wp2_with fail
  refine (bytes_ok Hr.out n hn hs).mono ?_
  rintro e w1 ⟨rfl, hr1, hu1⟩
  have Hr1 := Lib.hid hr1
  have hlen : ((s.drop at_).take n).length = n := by rw [List.length_take, List.length_drop]; omega
  generalize hLd : (s.drop at_).take n = L at hlen
  have HLd := Lib.hid hLd
  clear hLd
  obtain ⟨cap, w2, hcap, hcv, hb2, hz2, hx2⟩ := conv_bytesL (P := Tryd.prog) w1 9 90 5 L Tryd.underlying9 Tryd.underlying90 Tryd.underlying5
  have Hx2 := Lib.hid hx2
  rw [hlen] at hcv
  have HL := Lib.hid hlen
  clear hx2 hr1 c0 c1 c2 c3 z1 z3 hcap hlen
  go_wp2_with fail
  go_loop [5, 30] (fun x i => ∃ (k m : Nat), k ≤ n ∧ i = .int .i64 k ∧ x = .int .i64 m ∧ Hid (m = beNum (L.take k))) (fun _ i => n - (intOf i).toNat)
  case atStart => exact ⟨0, 0, by omega, rfl, rfl, rfl⟩
  case round =>
    obtain ⟨k, m, hk, rfl, rfl, Hm⟩ := hrel
    by_cases hlt : k < n
    · have hkl : k < L.length := by rw [HL.out]; exact hlt
      have hm7 : m < 256 ^ 6 := by
        rw [Hm.out]
        refine Nat.lt_of_lt_of_le (beNum_lt _) (Nat.pow_le_pow_right (by decide) ?_)
        rw [List.length_take]; omega
      have hor := or_byte m L[k] (Nat.lt_trans hm7 (by decide))
      have hsn : beNum (L.take (k + 1)) = 256 * m + L[k].toNat := by rw [takeL_snoc L k hkl, beNum_snoc, ← Hm.out]
      obtain ⟨hcell, hfr⟩ := Hx2.out k hkl
      have hc256 : (L[k].toNat : Int) < 256 := by have := L[k].toNat_lt; omega
      have Hsn := Lib.hid hsn
      have hm8 : (m : Int) < 281474976710656 := by omega
      generalize L[k] = c at hor hcell hc256 Hsn
      clear hsn hkl
      generalize hq : 256 * m + c.toNat = q at hor Hsn
      clear hq
      go_wp2_with fail
      go_round
      case rel => exact ⟨k + 1, q, by omega, by go_num, rfl, Hsn.out.symm⟩
      case measure => simp [intOf]; omega
    · go_wp2_with fail
      go_ret
      have hkn : k = n := by omega
      refine ⟨ret_int ?_, Hr1.out.keep hb2, hu1.trans (Upd.of_below hb2 b)⟩
      rw [Hm.out, List.take_of_length_le (by rw [HL.out]; omega), HLd.out]
/-- Num where nothing was wrong, and too little is left. -/
theorem num_short {w : World} {b : Nat} {s : List UInt8} {at_ off : Nat} (h : Rd w b s at_ off .nilIface) (n : Nat) (h1 : 1 ≤ n) (h8 : n ≤ 8) (ha : at_ ≤ s.length) (hn : s.length < at_ + n) (hs : off + s.length ≤ 9223372036854775807) :
    Calls Tryd.prog 50 #[.pointer (some ⟨b, 0, none⟩), .int .i64 (n : Int)] w fun e w' => e = .returned (.int .i64 0) ∧ Upd b w w' ∧ SomeErr w' b s at_ off 7 ((off + at_ : Nat) : Int) := by
  have Hr := Lib.hid h
  obtain ⟨c0, c1, c2, c3, z1, z3, hlt⟩ := h
  go_enter Tryd.func50, Tryd.ntmps50
  go_wp2_with fail
  refine (bytes_fail Hr.out n ha (by omega) hs).mono ?_
  rintro e w1 ⟨rfl, hu1, he1⟩
  rw [if_neg (by omega)] at he1
  have He1 := Lib.hid he1
  clear he1
  obtain ⟨cap, w2, hcap, hcv, hb2, hz2, hx2⟩ := conv_bytesL (P := Tryd.prog) w1 9 90 5 [] Tryd.underlying9 Tryd.underlying90 Tryd.underlying5
  simp only [List.length_nil] at hcv
  clear hx2
  go_wp2_with fail
  refine wp_loop_once ?_
  go_wp2_with fail
  go_ret
  exact ⟨rfl, hu1.trans (Upd.of_below hb2 b), He1.out.keep hb2⟩
end Go.Proofs.YteibhcocldihbaaDoor
namespace Go.Proofs.YteibhcocldihbaaDoor
open Go.RowKit
theorem zeros_had {w : World} {b : Nat} {s : List UInt8} {at_ off : Nat} {t : TypeId} {x : Value} (h : Rd w b s at_ off (.iface t x)) :
    Calls Tryd.prog 54 #[.pointer (some ⟨b, 0, none⟩)] w fun e w' => e = .returned (.bool false) ∧ Below w.heap.size w w' := by
  obtain ⟨c0, c1, c2, c3, z1, z3, hlt⟩ := h
  go_enter Tryd.func54, Tryd.ntmps54
  go_wp2_with fail
  refine wp_loop_once ?_
  go_wp2_with fail
  go_ret
  exact ⟨rfl, Below.refl _ _⟩
set_option maxHeartbeats 400000 in
theorem zeros_yes {w : World} {b : Nat} {s : List UInt8} {at_ off : Nat} (h : Rd w b s at_ off .nilIface) (ha : at_ ≤ s.length) (hs : off + s.length ≤ 9223372036854775807)
    (hz : ∀ i (hi : i < s.length), at_ ≤ i → s[i] = 0) :
    Calls Tryd.prog 54 #[.pointer (some ⟨b, 0, none⟩)] w fun e w' => e = .returned (.bool true) ∧ Rd w' b s s.length off .nilIface ∧ Upd b w w' := by
  have Hr := Lib.hid h
  have Hz := Lib.hid hz
  clear h hz
  go_enter Tryd.func54, Tryd.ntmps54
  go_wp2_with fail
  go_loopg [] (s.length - at_) (fun k wr => ∃ p : Nat, at_ ≤ p ∧ p ≤ s.length ∧ k = s.length - p ∧ Hid (Rd wr b s p off .nilIface) ∧ Upd b w wr)
  case atStart => exact ⟨at_, by omega, ha, rfl, Hr, Upd.refl b w⟩
  case round =>
    obtain ⟨p, hp, hps, hk, HR, hu⟩ := hrel
    have Hk := Lib.hid hk
    clear hk
    obtain ⟨c0, c1, c2, c3, z1, z3, hlt⟩ := HR.out
    by_cases hlt' : p < s.length
    · have hb := Hz.out p hlt' hp
      have hne : ((s[p].toNat : Int) != 0) = false := by rw [hb]; rfl
      clear hb
      go_wp2_with fail
      refine (left_any HR.out (by omega) (by omega)).mono ?_
      rintro e w1 ⟨rfl, hb1⟩
      have HR1 := Lib.hid (HR.out.keep hb1)
      clear c0 c1 c2 c3 z1 z3
      obtain ⟨d0, d1, d2, d3, y1, y3, hlt1⟩ := HR1.out
      have hpos : 0 < s.length - p := by omega
      go_wp2_with fail
      go_quiet (fail)
      go_wp2_with fail
      go_roundg (s.length - (p + 1))
      case measure => have := Hk.out; omega
      case rel => exact ⟨p + 1, by omega, by omega, rfl, (Rd.setAt' (w := w1.drewN nq) ⟨d0, d1, d2, d3, y1, y3, hlt1⟩ (by omega)), ((Upd.of_below (below_drewN hb1 nq) b).setCell 1 _ |> hu.trans)⟩
    · have hpe : p = s.length := by omega
      go_wp2_with fail
      refine (left_any HR.out (by omega) (by omega)).mono ?_
      rintro e w1 ⟨rfl, hb1⟩
      have HR1 := Lib.hid (HR.out.keep hb1)
      clear c0 c1 c2 c3 z1 z3
      obtain ⟨d0, d1, d2, d3, y1, y3, hlt1⟩ := HR1.out
      have hzero : s.length - p = 0 := by omega
      have Hpe := Lib.hid hpe
      clear hpe
      go_wp2_with fail
      go_ret
      have hr2 := HR1.out
      rw [Hpe.out] at hr2
      exact ⟨rfl, hr2, hu.trans (Upd.of_below hb1 b)⟩
set_option maxHeartbeats 400000 in
theorem zeros_no {w : World} {b : Nat} {s : List UInt8} {at_ off : Nat} (h : Rd w b s at_ off .nilIface) (j : Nat) (ha : at_ ≤ j) (hj : j < s.length) (hs : off + s.length ≤ 9223372036854775807)
    (hz : ∀ i (hi : i < s.length), at_ ≤ i → i < j → s[i] = 0) (hne : s[j] ≠ 0) :
    Calls Tryd.prog 54 #[.pointer (some ⟨b, 0, none⟩)] w fun e w' => e = .returned (.bool false) ∧ Upd b w w' ∧ SomeErr w' b s j off 15 ((off + j : Nat) : Int) := by
  have Hr := Lib.hid h
  have Hz := Lib.hid hz
  have hne' : ((s[j].toNat : Int) != 0) = true := by
    rw [bne_iff_ne]
    intro h0
    apply hne
    apply UInt8.toNat_inj.1
    simpa using h0
  have Hne : Hid (∀ p (hp : p < s.length), p = j → ((s[p].toNat : Int) != 0) = true) := by intro p hp e; subst e; exact hne'
  clear h hz hne hne'
  go_enter Tryd.func54, Tryd.ntmps54
  go_wp2_with fail
  go_loopg [] (j + 1 - at_) (fun k wr => ∃ p : Nat, at_ ≤ p ∧ p ≤ j ∧ k = j + 1 - p ∧ Hid (Rd wr b s p off .nilIface) ∧ Upd b w wr)
  case atStart => exact ⟨at_, by omega, ha, rfl, Hr, Upd.refl b w⟩
  case round =>
    obtain ⟨p, hp, hps, hk, HR, hu⟩ := hrel
    have Hk := Lib.hid hk
    clear hk
    obtain ⟨c0, c1, c2, c3, z1, z3, hlt⟩ := HR.out
    have hpl : p < s.length := by omega
    have hpos : 0 < s.length - p := by omega
    by_cases hlt' : p < j
    · have hb := Hz.out p hpl hp hlt'
      have hne : ((s[p].toNat : Int) != 0) = false := by rw [hb]; rfl
      clear hb
      go_wp2_with fail
      refine (left_any HR.out (by omega) (by omega)).mono ?_
      rintro e w1 ⟨rfl, hb1⟩
      have HR1 := Lib.hid (HR.out.keep hb1)
      clear c0 c1 c2 c3 z1 z3
      obtain ⟨d0, d1, d2, d3, y1, y3, hlt1⟩ := HR1.out
      go_wp2_with fail
      go_quiet (fail)
      go_wp2_with fail
      go_roundg (j + 1 - (p + 1))
      case measure => have := Hk.out; omega
      case rel => exact ⟨p + 1, by omega, by omega, rfl, (Rd.setAt' (w := w1.drewN nq) ⟨d0, d1, d2, d3, y1, y3, hlt1⟩ (by omega)), ((Upd.of_below (below_drewN hb1 nq) b).setCell 1 _ |> hu.trans)⟩
    · have hpe : p = j := by omega
      have hne := Hne.out p hpl hpe
      have Hpe := Lib.hid hpe
      clear hpe
      go_wp2_with fail
      refine (left_any HR.out (by omega) (by omega)).mono ?_
      rintro e w1 ⟨rfl, hb1⟩
      have HR1 := Lib.hid (HR.out.keep hb1)
      clear c0 c1 c2 c3 z1 z3
      obtain ⟨d0, d1, d2, d3, y1, y3, hlt1⟩ := HR1.out
      go_wp2_with fail
      go_quiet (fail)
      have HR2 : Hid (Rd (w1.drewN nq) b s p off .nilIface) := ⟨d0, d1, d2, d3, y1, y3, hlt1⟩
      have hb2 := below_drewN hb1 nq
      clear d0 d1 d2 d3 y1 y3 hb1
      go_wp2_with fail
      refine (at_any HR2.out (by omega)).mono ?_
      rintro e w3 ⟨rfl, hb3⟩
      have HR3 := Lib.hid (HR2.out.keep hb3)
      go_wp2_with fail
      refine (fail_new HR3.out 15 _).mono ?_
      rintro e w4 ⟨rfl, hu4, hlt4, hr4, he4⟩
      have HR4 := Lib.hid hr4
      have HE4 := Lib.hid he4
      obtain ⟨f0, f1, f2, f3, x1, x3, hlt5⟩ := hr4
      clear he4
      go_wp2_with fail
      go_ret
      refine ⟨rfl, (hu.trans (Upd.of_below hb2 b)).trans ((Upd.of_below hb3 b).trans hu4), ?_⟩
      rw [← Hpe.out]
      exact ⟨_, HR4.out, HE4.out⟩
end Go.Proofs.YteibhcocldihbaaDoor
namespace Go.Proofs.YteibhcocldihbaaDoor
open Go.RowKit
theorem Fr.of_upd {b : Nat} {w W : World} (h : Upd b w W) {gs : List Nat} (hb : b ∈ gs) : Fr gs w W :=
  ⟨h.os, h.tape, h.output, h.size, fun i hi hn => h.block i hi (fun e => hn (by rw [e]; exact hb))⟩
def errV (R : RS) (g : Nat) : Value := match R.err with
  | none => .nilIface
  | some _ => .iface 130 (.pointer (some ⟨g, 0, none⟩))
theorem errV_none {R : RS} (h : R.err = none) (g : Nat) : errV R g = .nilIface := by unfold errV; rw [h]
theorem errV_some {R : RS} {x : Int × Int} (h : R.err = some x) (g : Nat) : errV R g = .iface 130 (.pointer (some ⟨g, 0, none⟩)) := by unfold errV; rw [h]
theorem Rd.loc {w W : World} {b : Nat} {s : List UInt8} {at_ off : Nat} {err : Value} (h : Rd w b s at_ off err) (hb : W.heap[b]? = w.heap[b]?) (hs : w.heap.size ≤ W.heap.size) : Rd W b s at_ off err :=
  ⟨(World.cell?_of_block (w := w) (a := ⟨b, 0, none⟩) hb).trans h.c0, (World.cell?_of_block (w := w) (a := ⟨b, 1, none⟩) hb).trans h.c1, (World.cell?_of_block (w := w) (a := ⟨b, 2, none⟩) hb).trans h.c2, (World.cell?_of_block (w := w) (a := ⟨b, 3, none⟩) hb).trans h.c3,
    (World.frozen?_of_block (w := w) (a := ⟨b, 1, none⟩) hb).trans h.z1, (World.frozen?_of_block (w := w) (a := ⟨b, 3, none⟩) hb).trans h.z3, Nat.lt_of_lt_of_le h.lt hs⟩
/-- What is known of a Reader in block b, whose error, if it has one, is in block g. -/
structure RdP (b : Nat) (R : RS) (g : Nat) (w : World) : Prop where
  ok : R.ok
  rd : Rd w b R.s R.at_ R.off (errV R g)
  err : ∀ e p, R.err = some (e, p) → g < w.heap.size ∧ w.cell? ⟨g, 0, none⟩ = some (.int .i64 e) ∧ w.cell? ⟨g, 1, none⟩ = some (.int .i64 p)
def rd (b : Nat) (R : RS) (g : Nat) : It where
  gs := b :: match R.err with | none => [] | some _ => [g]
  P w := RdP b R g w
  lt w h x hx := by
    rcases List.mem_cons.1 hx with rfl | hx
    · exact h.rd.lt
    · cases he : R.err with
      | none => rw [he] at hx; cases hx
      | some y =>
        rw [he] at hx
        rw [List.mem_singleton.1 hx]
        exact (h.err y.1 y.2 (by rw [he])).1
  loc w W h hs hp := by
    refine ⟨hp.ok, hp.rd.loc (h b (List.mem_cons_self ..)) hs, fun e p he => ?_⟩
    obtain ⟨h1, h2, h3⟩ := hp.err e p he
    have hg : W.heap[g]? = w.heap[g]? := h g (List.mem_cons_of_mem _ (by rw [he]; exact List.mem_singleton.2 rfl))
    exact ⟨Nat.lt_of_lt_of_le h1 hs, (World.cell?_of_block (w := w) (a := ⟨g, 0, none⟩) hg).trans h2, (World.cell?_of_block (w := w) (a := ⟨g, 1, none⟩) hg).trans h3⟩
theorem rd_gs_none {b : Nat} {R : RS} {g : Nat} (h : R.err = none) : (rd b R g).gs = [b] := by unfold rd; simp only [h]
theorem rd_gs_some {b : Nat} {R : RS} {g : Nat} {x : Int × Int} (h : R.err = some x) : (rd b R g).gs = [b, g] := by unfold rd; simp only [h]
theorem rd_b (b : Nat) (R : RS) (g : Nat) : b ∈ (rd b R g).gs := List.mem_cons_self ..
/-- The state of a Reader after a call. -/
def RdTo (B : Nat) (w0 : World) (b : Nat) (R : RS) (A : List It) (w : World) : Prop := ∃ g, St B w0 w (rd b R g :: A)
section
variable {B : Nat} {w0 w : World} {A : List It} {b g : Nat} {R : RS}
theorem St.rdp (H : St B w0 w (rd b R g :: A)) : RdP b R g w := H.head
/-- No error before, none behind. -/
theorem St.rd_none (H : St B w0 w (rd b R g :: A)) (he : R.err = none) {R' : RS} (he' : R'.err = none) (ok : R'.ok) {W : World} (hu : Upd b w W) (hr : Rd W b R'.s R'.at_ R'.off .nilIface) : RdTo B w0 b R' A W := by
  refine ⟨g, H.step (Fr.of_upd hu (rd_b ..)) ⟨ok, by rw [errV_none he']; exact hr, fun e p h => by rw [he'] at h; cases h⟩ (fun x hx => .inl ?_)⟩
  rw [rd_gs_none he'] at hx
  rw [rd_gs_none he]; exact hx
/-- No error before, one behind. -/
theorem St.rd_fresh (H : St B w0 w (rd b R g :: A)) (_ : R.err = none) {R' : RS} {e p : Int} (he' : R'.err = some (e, p)) (ok : R'.ok) {W : World} (hu : Upd b w W) (q : Nat) (hq : w.heap.size ≤ q) (hr : Rd W b R'.s R'.at_ R'.off (.iface 130 (.pointer (some ⟨q, 0, none⟩)))) (h1 : q < W.heap.size) (h2 : W.cell? ⟨q, 0, none⟩ = some (.int .i64 e)) (h3 : W.cell? ⟨q, 1, none⟩ = some (.int .i64 p)) : RdTo B w0 b R' A W := by
  refine ⟨q, H.step (Fr.of_upd hu (rd_b ..)) ⟨ok, by rw [errV_some he']; exact hr, fun e' p' h => ?_⟩ (fun x hx => ?_)⟩
  · rw [he'] at h
    injection h with h
    injection h with h4 h5
    subst h4 h5
    exact ⟨h1, h2, h3⟩
  · rw [rd_gs_some he'] at hx
    rcases List.mem_cons.1 hx with rfl | hx
    · exact .inl (rd_b ..)
    · rw [List.mem_singleton.1 hx]; exact .inr hq
theorem rd_had (H : St B w0 w (rd b R g :: A)) {x : Int × Int} (he : R.err = some x) : Rd w b R.s R.at_ R.off (.iface 130 (.pointer (some ⟨g, 0, none⟩))) := by
  have := H.rdp.rd
  rw [errV_some he] at this
  exact this
theorem rd_nil (H : St B w0 w (rd b R g :: A)) (he : R.err = none) : Rd w b R.s R.at_ R.off .nilIface := by
  have := H.rdp.rd
  rw [errV_none he] at this
  exact this
theorem new_st (H : St B w0 w A) (s : List UInt8) (off : Nat) (hs : off + s.length ≤ 4611686018427387904) :
    Calls Tryd.prog 47 #[.string ⟨s.toArray⟩, .int .i64 (off : Int)] w fun e w' => e = .returned (.pointer (some ⟨w.heap.size, 0, none⟩)) ∧ St B w0 w' (rd w.heap.size (newM s off) 0 :: A) := by
  refine (new_any s off w).mono ?_
  rintro e w1 ⟨rfl, hr, hb, hlt⟩
  refine ⟨rfl, H.add hb ⟨⟨Nat.zero_le _, hs⟩, hr, fun e p h => by cases h⟩ (fun x hx => ?_)⟩
  rw [rd_gs_none (R := newM s off) rfl] at hx
  rw [List.mem_singleton.1 hx]; exact Nat.le_refl _
theorem left_st (H : St B w0 w (rd b R g :: A)) :
    Calls Tryd.prog 77 #[.pointer (some ⟨b, 0, none⟩)] w fun e w' => e = .returned (.int .i64 ((R.s.length - R.at_ : Nat) : Int)) ∧ St B w0 w' (rd b R g :: A) := by
  have hl := H.rdp.ok.lim
  refine (left_any H.rdp.rd H.rdp.ok.le (by omega)).mono ?_
  rintro e w1 ⟨rfl, hb⟩
  exact ⟨rfl, H.ext hb⟩
theorem at_st (H : St B w0 w (rd b R g :: A)) :
    Calls Tryd.prog 49 #[.pointer (some ⟨b, 0, none⟩)] w fun e w' => e = .returned (.int .i64 (R.place : Int)) ∧ St B w0 w' (rd b R g :: A) := by
  have hl := H.rdp.ok.lim
  have hl2 := H.rdp.ok.le
  refine (at_any H.rdp.rd (by omega)).mono ?_
  rintro e w1 ⟨rfl, hb⟩
  exact ⟨rfl, H.ext hb⟩
theorem err_st (H : St B w0 w (rd b R g :: A)) :
    Calls Tryd.prog 51 #[.pointer (some ⟨b, 0, none⟩)] w fun e w' => e = .returned (errV R g) ∧ w = w' := err_any H.rdp.rd
theorem fail_st (H : St B w0 w (rd b R g :: A)) (e p : Int) :
    Calls Tryd.prog 52 #[.pointer (some ⟨b, 0, none⟩), .int .i64 e, .int .i64 p] w fun r w' => r = .returned (.tuple #[]) ∧ RdTo B w0 b (failM R e p) A w' := by
  cases he : R.err with
  | some x =>
    refine (fail_had (rd_had H he) e p).mono ?_
    rintro r w1 ⟨rfl, rfl⟩
    rw [failM_had he]
    exact ⟨rfl, g, H⟩
  | none =>
    refine (fail_new (rd_nil H he) e p).mono ?_
    rintro r w1 ⟨rfl, hu, hlt, hr, q, hq, h1, h2, h3⟩
    injection hq with _ hq
    injection hq with hq
    injection hq with hq
    injection hq with hq
    subst hq
    refine ⟨rfl, ?_⟩
    rw [failM_new he]
    exact H.rd_fresh (R' := { R with err := some (e, p) }) he rfl ⟨H.rdp.ok.le, H.rdp.ok.lim⟩ hu _ (Nat.le_refl _) hr h1 h2 h3
theorem bytes_st (H : St B w0 w (rd b R g :: A)) (n : Nat) (hn64 : n ≤ 4611686018427387904) :
    Calls Tryd.prog 53 #[.pointer (some ⟨b, 0, none⟩), .int .i64 (n : Int)] w fun e w' => e = .returned (.string ⟨(bytesM R n).1.toArray⟩) ∧ RdTo B w0 b (bytesM R n).2 A w' := by
  have hok := H.rdp.ok
  cases he : R.err with
  | some x =>
    refine (bytes_had (rd_had H he) n).mono ?_
    rintro e w1 ⟨rfl, hb⟩
    rw [bytesM_had he]
    exact ⟨rfl, g, H.ext hb⟩
  | none =>
    by_cases hn : R.at_ + n ≤ R.s.length
    · refine (bytes_ok (rd_nil H he) n hn (by have := hok.lim; omega)).mono ?_
      rintro e w1 ⟨rfl, hr, hu⟩
      rw [bytesM_ok he hn]
      exact ⟨rfl, H.rd_none he (R' := { R with at_ := R.at_ + n }) he ⟨hn, hok.lim⟩ hu hr⟩
    · rw [bytesM_no he hn]
      have hl := hok.lim
      have hle := hok.le
      have hfm : failM R 7 (R.place : Int) = { R with err := some (7, (R.place : Int)) } := failM_new he 7 _
      have Hfm := Lib.hid hfm
      have Hr := Lib.hid H
      obtain ⟨c0, c1, c2, c3, z1, z3, hlt⟩ := rd_nil H he
      clear hfm he H hok
      go_enter Tryd.func53, Tryd.ntmps53
      go_wp2_with fail
      refine (left_st Hr.out).mono ?_
      rintro e w1 ⟨rfl, h1⟩
      have H1 := Lib.hid h1
      clear h1 c0 c1 c2 c3 z1 z3 Hr
      have hnl : R.s.length - R.at_ < n := by omega
      go_wp2_with fail
      refine (at_st H1.out).mono ?_
      rintro e w2 ⟨rfl, h2⟩
      have H2 := Lib.hid h2
      clear h2 H1
      go_wp2_with fail
      refine (fail_st H2.out 7 _).mono ?_
      rintro e w3 ⟨rfl, h3⟩
      have H3 := Lib.hid h3
      clear h3 H2
      go_wp2_with fail
      go_ret
      exact ⟨rfl, by rw [← Hfm.out]; exact H3.out⟩
set_option maxRecDepth 100000 in
set_option maxHeartbeats 1000000 in
theorem num_st (H : St B w0 w (rd b R g :: A)) (n : Nat) (h1 : 1 ≤ n) (h7 : n ≤ 7) :
    Calls Tryd.prog 50 #[.pointer (some ⟨b, 0, none⟩), .int .i64 (n : Int)] w fun e w' => e = .returned (.int .i64 ((numM R n).1 : Int)) ∧ RdTo B w0 b (numM R n).2 A w' := by
  cases he : R.err with
  | some x =>
    refine (num_had (rd_had H he) n).mono ?_
    rintro e w1 ⟨rfl, hb⟩
    rw [beNum_nil' he]
    exact ⟨rfl, g, H.ext hb⟩
  | none =>
    have hok := H.rdp.ok
    by_cases hn : R.at_ + n ≤ R.s.length
    · refine (num_ok (rd_nil H he) n h1 h7 hn (by have := hok.lim; omega)).mono ?_
      rintro e w1 ⟨rfl, hr, hu⟩
      unfold numM
      rw [bytesM_ok he hn]
      exact ⟨rfl, H.rd_none he (R' := { R with at_ := R.at_ + n }) he ⟨hn, hok.lim⟩ hu hr⟩
    · have hm : bytesM R n = ([], { R with err := some (7, (R.place : Int)) }) := bytesM_no he hn
      unfold numM
      have hB := bytes_st H n (by omega)
      rw [hm] at hB
      rw [hm]
      have HB := Lib.hid hB
      obtain ⟨c0, c1, c2, c3, z1, z3, hlt⟩ := rd_nil H he
      clear hm hB he H hok
      simp only [beNum_nil]
      go_enter Tryd.func50, Tryd.ntmps50
      go_wp2_with fail
      refine HB.out.mono ?_
      rintro e w1 ⟨rfl, h2⟩
      have H2 := Lib.hid h2
      clear h2 c0 c1 c2 c3 z1 z3 HB
      obtain ⟨cap, w2, hcap, hcv, hb2, hz2, hx2⟩ := conv_bytesL (P := Tryd.prog) w1 9 90 5 [] Tryd.underlying9 Tryd.underlying90 Tryd.underlying5
      simp only [List.length_nil] at hcv
      clear hx2
      go_wp2_with fail
      refine wp_loop_once ?_
      go_wp2_with fail
      go_ret
      obtain ⟨g', h3⟩ := H2.out
      exact ⟨rfl, g', h3.ext hb2⟩
/-- The rest of a text: all noughts, or the first that is not. -/
theorem rest_cases (s : List UInt8) (a : Nat) : ((s.drop a).findIdx? nz = none ∧ ∀ i (hi : i < s.length), a ≤ i → s[i] = 0) ∨
    ∃ j, (s.drop a).findIdx? nz = some j ∧ ∃ hj : a + j < s.length, s[a + j] ≠ 0 ∧ ∀ i (hi : i < s.length), a ≤ i → i < a + j → s[i] = 0 := by
  cases h : (s.drop a).findIdx? nz with
  | none =>
    left
    refine ⟨rfl, fun i hi hai => ?_⟩
    rw [List.findIdx?_eq_none_iff] at h
    have hm : s[i] ∈ s.drop a := by
      rw [List.mem_drop_iff_getElem]
      exact ⟨i - a, by omega, by congr 1; omega⟩
    have := h _ hm
    simpa [nz] using this
  | some j =>
    right
    rw [List.findIdx?_eq_some_iff_getElem] at h
    obtain ⟨hj, hp, hb⟩ := h
    have hj' : a + j < s.length := by simp at hj; omega
    refine ⟨j, rfl, hj', ?_, fun i hi hai hlt => ?_⟩
    · have h1 : (s.drop a)[j] = s[a + j] := by rw [List.getElem_drop]
      rw [h1] at hp
      simpa [nz] using hp
    · have := hb (i - a) (by omega)
      have h1 : (s.drop a)[i - a]'(by simp; omega) = s[i] := by rw [List.getElem_drop]; congr 1; omega
      rw [h1] at this
      simpa [nz] using this
set_option maxHeartbeats 1000000 in
theorem zeros_st (H : St B w0 w (rd b R g :: A)) :
    Calls Tryd.prog 54 #[.pointer (some ⟨b, 0, none⟩)] w fun e w' => e = .returned (.bool (zerosM R).1) ∧ RdTo B w0 b (zerosM R).2 A w' := by
  cases he : R.err with
  | some x =>
    refine (zeros_had (rd_had H he)).mono ?_
    rintro e w1 ⟨rfl, hb⟩
    rw [zerosM_had he]
    exact ⟨rfl, g, H.ext hb⟩
  | none =>
    have hok := H.rdp.ok
    rcases rest_cases R.s R.at_ with ⟨hf, hz⟩ | ⟨j, hf, hj, hne, hz⟩
    · rw [zerosM_yes he hf]
      refine (zeros_yes (rd_nil H he) hok.le (by have := hok.lim; omega) hz).mono ?_
      rintro e w1 ⟨rfl, hr, hu⟩
      exact ⟨rfl, H.rd_none he (R' := { R with at_ := R.s.length }) he ⟨Nat.le_refl _, hok.lim⟩ hu hr⟩
    · rw [zerosM_no he hf]
      have hpl : R.place + j = ({ R with at_ := R.at_ + j } : RS).place := by unfold RS.place; simp only []; omega
      rw [hpl]
      clear hpl
      have hz0 : R.at_ ≤ R.at_ + j := by omega
      clear hf
      generalize R.at_ + j = z at *
      have hne' : ((R.s[z].toNat : Int) != 0) = true := by
        rw [bne_iff_ne]
        intro h0
        apply hne
        apply UInt8.toNat_inj.1
        simpa using h0
      have Hne : Hid (∀ p (hp : p < R.s.length), p = z → ((R.s[p].toNat : Int) != 0) = true) := Lib.hid (by intro p hp e; subst e; exact hne')
      have Hz := Lib.hid hz
      have Hr := Lib.hid H
      have He := Lib.hid he
      have hl := hok.lim
      have hle := hok.le
      clear hz hne hne' he H hok
      obtain ⟨s, a, off, err⟩ := R
      simp only [] at *
      go_enter Tryd.func54, Tryd.ntmps54
      go_wp2_with fail
      go_loopg [] (z + 1 - a) (fun k wr => ∃ p : Nat, a ≤ p ∧ p ≤ z ∧ k = z + 1 - p ∧ Hid (St B w0 wr (rd b ⟨s, p, off, err⟩ g :: A)))
      case atStart => exact ⟨a, by omega, hz0, rfl, Hr⟩
      case round =>
        obtain ⟨p, hp, hpz, hk, HR⟩ := hrel
        have Hk := Lib.hid hk
        clear hk
        obtain ⟨c0, c1, c2, c3, z1, z3, hlt⟩ := rd_nil HR.out He.out
        simp only [] at c0 c1 c2
        have hpl : p < s.length := by omega
        have hpos : 0 < s.length - p := by omega
        by_cases hlt' : p < z
        · have hb := Hz.out p hpl (by omega) (by omega)
          have hne : ((s[p].toNat : Int) != 0) = false := by rw [hb]; rfl
          clear hb
          go_wp2_with fail
          refine (left_st HR.out).mono ?_
          rintro e w1 ⟨rfl, h1⟩
          have H1 := Lib.hid h1
          clear c0 c1 c2 c3 z1 z3 h1 HR
          obtain ⟨d0, d1, d2, d3, y1, y3, hlt1⟩ := rd_nil H1.out He.out
          simp only [] at d0 d1 d2
          go_wp2_with fail
          go_quiet (fail)
          go_wp2_with fail
          go_roundg (z + 1 - (p + 1))
          case measure => have := Hk.out; omega
          case rel =>
            refine ⟨p + 1, by omega, by omega, rfl, Lib.hid ?_⟩
            have h2 := H1.out.drewN nq
            exact h2.step (k' := rd b ⟨s, p + 1, off, err⟩ g) (Fr.setCell b 1 _ _ (rd_b ..)) ⟨⟨by show p + 1 ≤ s.length; omega, hl⟩, h2.rdp.rd.setAt' (by show _ = ((p + 1 : Nat) : Int); omega), fun e p he => by rw [He.out] at he; cases he⟩ (fun x hx => .inl hx)
        · obtain rfl : p = z := by omega
          have hne := Hne.out p hpl rfl
          go_wp2_with fail
          refine (left_st HR.out).mono ?_
          rintro e w1 ⟨rfl, h1⟩
          have H1 := Lib.hid h1
          clear c0 c1 c2 c3 z1 z3 h1 HR
          obtain ⟨d0, d1, d2, d3, y1, y3, hlt1⟩ := rd_nil H1.out He.out
          simp only [] at d0 d1 d2
          go_wp2_with fail
          go_quiet (fail)
          have H2 := Lib.hid (H1.out.drewN nq)
          clear d0 d1 d2 d3 y1 y3 H1
          go_wp2_with fail
          refine (at_st H2.out).mono ?_
          rintro e w3 ⟨rfl, h3⟩
          have H3 := Lib.hid h3
          clear h3 H2
          go_wp2_with fail
          refine (fail_st H3.out 15 _).mono ?_
          rintro e w4 ⟨rfl, h4⟩
          have h5 := h4
          obtain ⟨g4, h4⟩ := h4
          have H5 := Lib.hid h5
          have c3 := (rd_had h4 (x := (15, _)) (by rw [failM_new He.out])).c3
          have hlt4 := (rd_had h4 (x := (15, _)) (by rw [failM_new He.out])).lt
          clear h4 h5
          go_wp2_with fail
          go_ret
          exact ⟨rfl, H5.out⟩
end
end Go.Proofs.YteibhcocldihbaaDoor
namespace Go.Proofs.YteibhcocldihbaaDoor
open Go.RowKit
section
variable {B : Nat} {w0 w : World} {A : List It} {b g : Nat} {R : RS}
theorem bytesM_two (R : RS) (n : Nat) : (bytesM R n).1 = [] ∨ (bytesM R n).1.length = n := by
  cases he : R.err with
  | some x => rw [bytesM_had he]; exact .inl rfl
  | none =>
    by_cases hn : R.at_ + n ≤ R.s.length
    · rw [bytesM_ok he hn]; right; simp; omega
    · rw [bytesM_no he hn]; exact .inl rfl
/-- The Reader's calls, their answers as letters. -/
theorem num_e (H : St B w0 w (rd b R g :: A)) (n : Nat) (h1 : 1 ≤ n) (h7 : n ≤ 7) :
    Calls Tryd.prog 50 #[.pointer (some ⟨b, 0, none⟩), .int .i64 (n : Int)] w fun e w' => ∃ x R', numM R n = (x, R') ∧ x < 256 ^ n ∧ e = .returned (.int .i64 (x : Int)) ∧ RdTo B w0 b R' A w' :=
  (num_st H n h1 h7).mono fun _ _ h => ⟨_, _, rfl, numM_lt R n, h.1, h.2⟩
theorem bytes_e (H : St B w0 w (rd b R g :: A)) (n : Nat) (hn : n ≤ 4611686018427387904) :
    Calls Tryd.prog 53 #[.pointer (some ⟨b, 0, none⟩), .int .i64 (n : Int)] w fun e w' => ∃ c R', bytesM R n = (c, R') ∧ (c = [] ∨ c.length = n) ∧ e = .returned (.string ⟨c.toArray⟩) ∧ RdTo B w0 b R' A w' :=
  (bytes_st H n hn).mono fun _ _ h => ⟨_, _, rfl, bytesM_two R n, h.1, h.2⟩
end
theorem zeros_e {B : Nat} {w0 w : World} {A : List It} {b g : Nat} {R : RS} (H : St B w0 w (rd b R g :: A)) :
    Calls Tryd.prog 54 #[.pointer (some ⟨b, 0, none⟩)] w fun e w' => ∃ x R', zerosM R = (x, R') ∧ e = .returned (.bool x) ∧ RdTo B w0 b R' A w' :=
  (zeros_st H).mono fun _ _ h => ⟨_, _, rfl, h.1, h.2⟩
end Go.Proofs.YteibhcocldihbaaDoor
namespace Go.Proofs.YteibhcocldihbaaDoor
open Go.RowKit
section
variable {B : Nat} {w0 w : World} {A : List It} {b g : Nat} {R : RS}
theorem ba_eq_iff (l m : List UInt8) : ((⟨l.toArray⟩ : ByteArray) = ⟨m.toArray⟩) ↔ l = m := by
  constructor
  · intro h
    have := congrArg ByteArray.data h
    simpa using this
  · rintro rfl; rfl
set_option maxHeartbeats 1000000 in
theorem head_st (H : St B w0 w (rd b R g :: A)) (want : List UInt8) (hw : want.length ≤ 100) :
    Calls Tryd.prog 48 #[.pointer (some ⟨b, 0, none⟩), .string ⟨want.toArray⟩] w fun e w' => e = .returned (.tuple #[]) ∧ RdTo B w0 b (headM R want) A w' := by
  have Hr := Lib.hid H
  have Hm : Hid (∀ got R2, bytesM R want.length = (got, R2) → headM R want = if R2.err = none ∧ got ≠ want then failM R2 3 (R.place : Int) else R2) := Lib.hid (fun got R2 h => by unfold headM; rw [h])
  clear H
  go_enter Tryd.func48, Tryd.ntmps48
  go_wp2_with fail
  refine (at_st Hr.out).mono ?_
  rintro e w1 ⟨rfl, h1⟩
  have H1 := Lib.hid h1
  clear h1 Hr
  go_wp2_with fail
  refine (bytes_st H1.out want.length (by omega)).mono ?_
  rintro e w2 ⟨rfl, g2, h2⟩
  obtain ⟨⟨got, R2⟩, hp⟩ : ∃ p, bytesM R want.length = p := ⟨_, rfl⟩
  rw [hp] at h2 ⊢
  simp only [] at h2 ⊢
  have Hf := Lib.hid (Hm.out got R2 hp)
  have H2 := Lib.hid h2
  clear h2 hp Hm H1
  go_wp2_with fail
  refine (err_st H2.out).mono ?_
  rintro e w3 ⟨rfl, rfl⟩
  cases he : R2.err with
  | some x =>
    rw [errV_some he]
    have Hf2 : Hid (headM R want = R2) := Lib.hid (by rw [Hf.out, if_neg (by rw [he]; simp)])
    clear he
    go_wp2_with fail
    go_returns
    exact ⟨rfl, g2, by rw [Hf2.out]; exact H2.out⟩
  | none =>
    rw [errV_none he]
    by_cases hg : got = want
    · have Hf2 : Hid (headM R want = R2) := Lib.hid (by rw [Hf.out, if_neg (by simp [hg])])
      subst hg
      clear he
      go_wp2_with fail
      go_returns
      exact ⟨rfl, g2, by rw [Hf2.out]; exact H2.out⟩
    · have Hf2 : Hid (headM R want = failM R2 3 (R.place : Int)) := Lib.hid (by rw [Hf.out, if_pos ⟨he, hg⟩])
      have hne : (got == want) = false := by
        rw [beq_eq_false_iff_ne]
        exact hg
      clear he
      go_wp2_with fail
      refine (fail_st H2.out 3 _).mono ?_
      rintro e w4 ⟨rfl, h4⟩
      have H4 := Lib.hid h4
      clear h4
      go_wp2_with fail
      go_returns
      exact ⟨rfl, by rw [Hf2.out]; exact H4.out⟩
theorem St.copyS {t : TypeId} {L : List Value} (h : St B w0 w (bk g t L :: A)) (o : Nat) (l : List UInt8) (ho : o + l.length ≤ L.length) :
    St B w0 (w.setRow g (L.take o ++ Lib.byteCells l ++ L.drop (o + l.length)).toArray) (bk g t (L.take o ++ Lib.byteCells l ++ L.drop (o + l.length)) :: A) := by
  have hB : w.heap[g]? = some (.cells L.toArray t (0, 0)) := h.head
  refine h.sets ?_ ⟨rfl, rfl, rfl, by simp [World.setRow], fun k hk => setRow_other w g k _ hk⟩
  show Blk _ g t _
  unfold Blk
  rw [setRow_heap w g _ _ t _ hB]
def zero6 : List Value := [.int .u8 0, .int .u8 0, .int .u8 0, .int .u8 0, .int .u8 0, .int .u8 0]
theorem copy_ad (pre rest : List Value) (o : Nat) (ho : pre.length = o) (c : List UInt8) (hc : c = [] ∨ c.length = 6) :
    (pre ++ (zero6 ++ rest)).take o ++ Lib.byteCells c ++ (pre ++ (zero6 ++ rest)).drop (o + c.length) = pre ++ ((Ad.of c).vals ++ rest) := by
  subst ho
  rw [List.take_left' rfl, ← List.drop_drop, List.drop_left' rfl, List.append_assoc]
  congr 1
  rcases hc with rfl | hc
  · rfl
  · match c, hc with
    | [_, _, _, _, _, _], _ => rfl
theorem copy_run {L : List Value} {t : TypeId} (h : St B w0 w (bk g t L :: A)) (o n cap : Nat) (l : List UInt8) (hl : l.length ≤ n) (ho : o + l.length ≤ L.length) (ty : TypeId) :
    (Builtin.copy_ #[90, 9] ty #[.slice (some ⟨g, o, none⟩) n cap, .string ⟨l.toArray⟩]).run Tryd.prog w = .ok (goInt l.length) (w.setRow g (L.take o ++ Lib.byteCells l ++ L.drop (o + l.length)).toArray) :=
  Lib.run_copy_row_string (P := Tryd.prog) w 90 9 ty 5 g o n cap ⟨l.toArray⟩ L.toArray t Tryd.underlying90 (by kernel_rfl) h.head hl (by show o + l.length ≤ _; simpa using ho)
/-- 'copy(p.Addr[:], s)', of six bytes or of none, into noughts. -/
theorem copyAd_run {t : TypeId} (pre rest : List Value) (o cap : Nat) (c : List UInt8) (h : St B w0 w (bk g t (pre ++ (zero6 ++ rest)) :: A)) (ho : pre.length = o) (hc : c = [] ∨ c.length = 6) (ty : TypeId) :
    (Builtin.copy_ #[90, 9] ty #[.slice (some ⟨g, o, none⟩) 6 cap, .string ⟨c.toArray⟩]).run Tryd.prog w = .ok (goInt c.length) (w.setRow g (pre ++ ((Ad.of c).vals ++ rest)).toArray) := by
  have := copy_run h o 6 cap c (by rcases hc with rfl | h <;> simp_all) (by subst ho; simp only [List.length_append, zero6, List.length_cons, List.length_nil]; rcases hc with rfl | h <;> simp_all <;> omega) ty
  rw [copy_ad pre rest o ho c hc] at this
  exact this
theorem St.copyAd {t : TypeId} (pre rest : List Value) (o : Nat) (c : List UInt8) (h : St B w0 w (bk g t (pre ++ (zero6 ++ rest)) :: A)) (ho : pre.length = o) (hc : c = [] ∨ c.length = 6) :
    St B w0 (w.setRow g (pre ++ ((Ad.of c).vals ++ rest)).toArray) (bk g t (pre ++ ((Ad.of c).vals ++ rest)) :: A) := by
  have := h.copyS o c (by subst ho; simp only [List.length_append, zero6, List.length_cons, List.length_nil]; rcases hc with rfl | h <;> simp_all <;> omega)
  rw [copy_ad pre rest o ho c hc] at this
  exact this
def zPty : List Value := [.int .i64 0] ++ (zero6 ++ [.int .i64 0, .int .i64 0, .int .i64 0, .int .i64 0])
set_option maxRecDepth 100000 in
set_option maxHeartbeats 2000000 in
theorem readSide_st (H : St B w0 w (rd b R g :: A)) (kind : Nat) (hk : kind = 1 ∨ kind = 2) :
    Calls Tryd.prog 106 #[.pointer (some ⟨b, 0, none⟩), .int .i64 (kind : Int)] w fun e w' => e = .returned (.agg (readSideM R kind).1.vals.toArray) ∧ RdTo B w0 b (readSideM R kind).2 A w' := by
  have H1 := Lib.hid (H.alloc [.int .i64 0, .int .u8 0, .int .u8 0, .int .u8 0, .int .u8 0, .int .u8 0, .int .u8 0, .int .i64 0, .int .i64 0, .int .i64 0, .int .i64 0] 83).swap
  clear H
  have L0 : (beBytes kind 1).length ≤ 1 := by rw [beBytes_len]; exact Nat.le_refl _
  have M0 := Lib.hid (fun W => must_ok kind 1 (by decide) (by decide) (by omega) W)
  go_enter Tryd.func106, Tryd.ntmps106
  go_upto_region 1 with (fail)
  generalize World.alloc _ _ = w1 at *
  have H1 : Hid (St B w0 w1 (rd b R g :: bk w.heap.size 83 zPty :: A)) := H1
  go_wp2_with fail
  refine (M0.out _).mono ?_
  rintro e w2 ⟨rfl, hb2⟩
  have H2 := Lib.hid (H1.out.ext hb2)
  clear hb2 H1 M0
  go_wp2_with fail
  refine (head_st H2.out (beBytes kind 1 ++ [20]) (by simp; omega)).mono ?_
  rintro e w3 ⟨rfl, g3, h3⟩
  have H3 := Lib.hid h3
  clear h3 H2
  generalize hR3 : headM R (beBytes kind 1 ++ [20]) = R3 at *
  have HR3 := Lib.hid hR3
  clear hR3
  go_upto_region 3 with (fail)
  have H4 := Lib.hid (H3.out.alloc [.int .i64 0, .int .u8 0, .int .u8 0, .int .u8 0, .int .u8 0, .int .u8 0, .int .u8 0, .int .i64 0, .int .i64 0, .int .i64 0, .int .i64 0] 83).swap
  clear H3
  generalize World.alloc _ _ = w4 at *
  generalize hP5 : w3.heap.size = P5 at *
  clear hP5
  have H4 : Hid (St B w0 w4 (rd b R3 g3 :: bk P5 83 zPty :: bk w.heap.size 83 zPty :: A)) := H4
  go_wp2_with fail
  refine (num_e H4.out 2 (by decide) (by decide)).mono ?_
  rintro e w5 ⟨n5, R5, e5, l5, rfl, g5, h5⟩
  have E5 := Lib.hid e5
  have H5 := Lib.hid h5
  clear e5 h5 H4
  have c5 := (H5.out.pull 1 rfl).cell 0
  have z5 := (H5.out.pull 1 rfl).frozen 0
  go_upto_region 4 with (fail)
  have H6 := Lib.hid ((H5.out.pull 1 rfl).set 0 (.int .i64 (n5 : Int)) (by decide)).swap
  clear H5 c5 z5
  generalize World.setCell _ _ _ = w6 at *
  refine wp_region_last (fun _ => True) 4 (by kernel_rfl) trivial (fun hHeld => ?_)
  refine wpAnyG_take 0 (oi := ?o3) ?v3 ?hi3 (by kernel_rfl) (by kernel_rfl) (by decide) (by kernel_rfl) (by kernel_rfl) ?hq3 ?hg3 ?hy3 (by assumption) ?hk3
  case hi3 => (simp only [List.getElem?_toArray, List.getElem?_cons_succ, List.getElem?_cons_zero]; rfl)
  case hq3 => exact fun _ _ _ h => h
  case hg3 => rfl
  case hy3 => (intro X hX; go_simp; try with_reducible rfl)
  try simp only [Act.put, List.setIfInBounds_toArray, List.set_cons_zero, List.set_cons_succ]
  refine wpAnyG_take 1 (oi := ?o4) ?v4 ?hi4 (by kernel_rfl) (by kernel_rfl) (by decide) (by kernel_rfl) (by kernel_rfl) ?hq4 ?hg4 ?hy4 (by assumption) ?hk4
  case hi4 => (simp only [List.getElem?_toArray, List.getElem?_cons_succ, List.getElem?_cons_zero]; rfl)
  case hq4 => exact fun _ _ _ h => h
  case hg4 => rfl
  case hy4 => (intro X hX; go_simp; try with_reducible rfl)
  try simp only [Act.put, List.setIfInBounds_toArray, List.set_cons_zero, List.set_cons_succ]
  refine wpAnyG_take 2 (oi := ?o5) ?v5 ?hi5 (by kernel_rfl) (by kernel_rfl) (by decide) (by kernel_rfl) (by kernel_rfl) ?hq5 ?hg5 ?hy5 (by assumption) ?hk5
  case hi5 => (simp only [List.getElem?_toArray, List.getElem?_cons_succ, List.getElem?_cons_zero]; rfl)
  case hq5 => exact fun _ _ _ h => h
  case hg5 => rfl
  case hy5 => (intro X hX; go_simp; try with_reducible rfl)
  try simp only [Act.put, List.setIfInBounds_toArray, List.set_cons_zero, List.set_cons_succ]
  refine wpAnyG_one 3 (o := ?o6) (by kernel_rfl) ?hi6 ?hg6 ?hk6
  case hi6 => (simp only [List.getElem?_toArray, List.getElem?_cons_succ, List.getElem?_cons_zero]; rfl)
  case hg6 => rfl
  intro K hK
  go_simp
  refine (bytes_e H6.out.drew 6 (by decide)).mono ?_
  rintro e w7 ⟨n7, R7, e7, l7, rfl, g7, h7⟩
  have E7 := Lib.hid e7
  have H7 := Lib.hid h7
  refine hK.out _ _ (fun _ => trivial) (fun _ => ?_)
  clear e7 h7 H6 hK K
  try simp only [Act.put, List.setIfInBounds_toArray, List.set_cons_zero, List.set_cons_succ]
  refine wpAnyG_one 4 (o := ?o7) (by kernel_rfl) ?hi7 ?hg7 ?hk7
  case hi7 => (simp only [List.getElem?_toArray, List.getElem?_cons_succ, List.getElem?_cons_zero]; rfl)
  case hg7 => rfl
  intro K hK
  have h7' : St B w0 w7 (bk P5 83 ([.int .i64 (n5 : Int)] ++ (zero6 ++ [.int .i64 0, .int .i64 0, .int .i64 0, .int .i64 0])) :: rd b R7 g7 :: bk w.heap.size 83 zPty :: A) := H7.out.pull 1 rfl
  refine Lib.wp_copy_run _ (.tmp 15) (.tmp 17) 90 9 rfl _ _ rfl rfl (copyAd_run [.int .i64 (n5 : Int)] [.int .i64 0, .int .i64 0, .int .i64 0, .int .i64 0] 1 6 n7 h7' rfl l7 _) ?_
  refine hK.out _ _ (fun h => absurd rfl h) (fun _ => ?_)
  refine wpAnyG_done (by kernel_rfl) ?_ _
  have H8 := Lib.hid (St.copyAd [.int .i64 (n5 : Int)] [.int .i64 0, .int .i64 0, .int .i64 0, .int .i64 0] 1 n7 h7' rfl l7).swap
  clear h7' hK K H7
  generalize World.setRow _ _ _ = w8 at *
  go_wp2_with fail
  refine (num_e H8.out 2 (by decide) (by decide)).mono ?_
  rintro e w9 ⟨n9, R9, e9, l9, rfl, g9, h9⟩
  have E9 := Lib.hid e9
  have H9 := Lib.hid h9
  clear e9 h9 H8
  go_wp2_with fail
  refine (num_e H9.out 2 (by decide) (by decide)).mono ?_
  rintro e w10 ⟨n10, R10, e10, l10, rfl, g10, h10⟩
  have E10 := Lib.hid e10
  have H10 := Lib.hid h10
  clear e10 h10 H9
  go_wp2_with fail
  refine (num_e H10.out 2 (by decide) (by decide)).mono ?_
  rintro e w11 ⟨n11, R11, e11, l11, rfl, g11, h11⟩
  have E11 := Lib.hid e11
  have H11 := Lib.hid h11
  clear e11 h11 H10
  go_wp2_with fail
  refine (num_e H11.out 1 (by decide) (by decide)).mono ?_
  rintro e w12 ⟨n12, R12, e12, l12, rfl, g12, h12⟩
  have E12 := Lib.hid e12
  have H12 := Lib.hid h12
  clear e12 h12 H11
  have c7 : w12.cell? ⟨P5, 7, none⟩ = some (.int .i64 0) := (H12.out.pull 1 rfl).cell 7
  have z7 := (H12.out.pull 1 rfl).frozen 7
  have c8 : w12.cell? ⟨P5, 8, none⟩ = some (.int .i64 0) := (H12.out.pull 1 rfl).cell 8
  have z8 := (H12.out.pull 1 rfl).frozen 8
  have c9 : w12.cell? ⟨P5, 9, none⟩ = some (.int .i64 0) := (H12.out.pull 1 rfl).cell 9
  have z9 := (H12.out.pull 1 rfl).frozen 9
  have c10 : w12.cell? ⟨P5, 10, none⟩ = some (.int .i64 0) := (H12.out.pull 1 rfl).cell 10
  have z10 := (H12.out.pull 1 rfl).frozen 10
  go_upto_region 6 with (fail)
  have h13 := (((((H12.out.pull 1 rfl).set 7 (.int .i64 (n9 : Int)) (by simp [Ad.vals])).set 8 (.int .i64 (n10 : Int)) (by simp [Ad.vals])).set 9 (.int .i64 (n11 : Int)) (by simp [Ad.vals])).set 10 (.int .i64 (n12 : Int)) (by simp [Ad.vals])).swap
  have H13 : Hid (St B w0 _ (rd b R12 g12 :: bk P5 83 (Pty.vals ⟨n5, Ad.of n7, n9, n10, n11, n12⟩) :: bk w.heap.size 83 zPty :: A)) := Lib.hid h13
  clear h13 c7 z7 c8 z8 c9 z9 c10 z10 H12
  generalize World.setCell _ _ _ = w13 at *
  go_wp2_with fail
  refine (bytes_e H13.out 3 (by decide)).mono ?_
  rintro e w14 ⟨n14, R14, e14, l14, rfl, g14, h14⟩
  have E14 := Lib.hid e14
  have H14 := Lib.hid h14
  clear e14 h14 H13
  have R14' := Lib.hid (Blk.box (H14.out.at 1 rfl)).range
  have B14' := Lib.hid (H14.out.at 2 rfl)
  go_wp2_with (first
    | (with_reducible refine wpList_load_rng (ty := 83) (Pty.vals ⟨n5, Ad.of n7, n9, n10, n11, n12⟩) (by with_unfolding_all rfl) R14'.out Tryd.underlying83 (by with_unfolding_all rfl) (by with_unfolding_all exact info83) ?_)
    | (with_reducible refine wpList_store_blk (ty := 83) (o := 0) _ (Pty.vals ⟨n5, Ad.of n7, n9, n10, n11, n12⟩) (by with_unfolding_all rfl) (by with_unfolding_all rfl) B14'.out (by with_unfolding_all exact Nat.le_refl _) (by with_unfolding_all exact info83) (Pty.one _) (fun W15 hBW15 hoW15 => ?_)))
  have hE : readSideM R kind = (⟨n5, Ad.of n7, n9, n10, n11, n12⟩, R14) := by
    unfold readSideM
    simp only [HR3.out, E5.out, E7.out, E9.out, E10.out, E11.out, E12.out, E14.out]
  rw [hE]
  have h15 := (H14.out.pull 2 rfl).sets (L' := Pty.vals ⟨n5, Ad.of n7, n9, n10, n11, n12⟩) hBW15 hoW15
  refine ret_cell (cs := Pty.vals ⟨n5, Ad.of n7, n9, n10, n11, n12⟩) Tryd.results106 (by rfl) (Blk.box h15.head).range Tryd.underlying83 rfl info83 rfl ⟨rfl, g14, (h15.tail.swap).tail⟩
end
end Go.Proofs.YteibhcocldihbaaDoor

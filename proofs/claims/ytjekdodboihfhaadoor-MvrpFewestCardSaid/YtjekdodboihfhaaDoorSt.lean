/- Worlds by what a call owns in them: items with footprints, framed by the list. Over any program. -/
import Derived.Test.YtjekdodboihfhaaDoorKit
import Derived.Test.YtjekdodboihfhaaDoorRows2
set_option linter.all false
namespace Go.Proofs.YtjekdodboihfhaaDoor
open Go.RowKit
/-- All blocks that were there, but those of gs, are as they were. -/
structure Fr (gs : List Nat) (w W : World) : Prop where
  os : W.os = w.os
  tape : W.tape = w.tape
  output : W.output = w.output
  size : w.heap.size ≤ W.heap.size
  block : ∀ k, k < w.heap.size → k ∉ gs → W.heap[k]? = w.heap[k]?
theorem Fr.refl (gs : List Nat) (w : World) : Fr gs w w := ⟨rfl, rfl, rfl, Nat.le_refl _, fun _ _ _ => rfl⟩
theorem Fr.trans {gs : List Nat} {w W X : World} (h : Fr gs w W) (k : Fr gs W X) : Fr gs w X :=
  ⟨k.os.trans h.os, k.tape.trans h.tape, k.output.trans h.output, Nat.le_trans h.size k.size, fun i hi hn => (k.block i (Nat.lt_of_lt_of_le hi h.size) hn).trans (h.block i hi hn)⟩
theorem Fr.of_below {w W : World} (h : Below w.heap.size w W) (gs : List Nat) : Fr gs w W := ⟨h.os, h.tape, h.output, h.size, fun i hi _ => h.block i hi⟩
theorem Fr.of_only {b : Nat} {w W : World} (h : Only b w W) {gs : List Nat} (hb : b ∈ gs) : Fr gs w W :=
  ⟨h.os, h.tape, h.output, by rw [h.size]; exact Nat.le_refl _, fun i hi hn => h.block i (fun e => hn (by rw [e]; exact hb))⟩
theorem Fr.setCell (b o : Nat) (v : Value) (w : World) {gs : List Nat} (hb : b ∈ gs) : Fr gs w (w.setCell ⟨b, o, none⟩ v) :=
  ⟨rfl, rfl, rfl, by simp [World.setCell], fun i _ hn => Below.heap_setCell _ _ _ _ (fun e => hn (by subst e; exact hb))⟩
theorem Fr.ext {gs : List Nat} {w W X : World} (h : Fr gs w W) (hb : Below W.heap.size W X) : Fr gs w X := h.trans (Fr.of_below hb gs)
theorem Fr.blk {gs : List Nat} {w W : World} (h : Fr gs w W) {g : Nat} {t : TypeId} {L : List Value} (hB : Blk w g t L) (hg : g ∉ gs) : Blk W g t L := (h.block g hB.lt hg).trans hB
theorem Fr.cell {gs : List Nat} {w W : World} (h : Fr gs w W) {g : Nat} (hg : g ∉ gs) (hl : g < w.heap.size) (o : Nat) : W.cell? ⟨g, o, none⟩ = w.cell? ⟨g, o, none⟩ := World.cell?_of_block (w := w) (a := ⟨g, o, none⟩) (h.block g hl hg)
/-- An item: blocks, and what is known of them. -/
structure It where
  gs : List Nat
  P : World → Prop
  lt : ∀ w, P w → ∀ g ∈ gs, g < w.heap.size
  loc : ∀ w W : World, (∀ g ∈ gs, W.heap[g]? = w.heap[g]?) → w.heap.size ≤ W.heap.size → P w → P W
/-- The world w, of which blocks from B on are ours, as the items say; what w0 had below B is as it was. -/
structure St (B : Nat) (w0 w : World) (A : List It) : Prop where
  below : Below B w0 w
  base : B ≤ w0.heap.size
  own : ∀ k ∈ A, k.P w
  low : ∀ k ∈ A, ∀ g ∈ k.gs, B ≤ g
  apart : A.Pairwise fun x y => ∀ g ∈ x.gs, g ∉ y.gs
theorem St.init (w : World) : St w.heap.size w w [] := ⟨Below.refl _ _, Nat.le_refl _, (fun _ h => by cases h), (fun _ h => by cases h), List.Pairwise.nil⟩
theorem St.le {B : Nat} {w0 w : World} {A : List It} (h : St B w0 w A) : B ≤ w.heap.size := Nat.le_trans h.base h.below.size
theorem St.step {B : Nat} {w0 w W : World} {A : List It} {k k' : It} (h : St B w0 w (k :: A)) (hf : Fr k.gs w W) (hk : k'.P W) (hg : ∀ g ∈ k'.gs, g ∈ k.gs ∨ w.heap.size ≤ g) : St B w0 W (k' :: A) := by
  have hb := h.le
  have hap := List.pairwise_cons.1 h.apart
  have hlow := h.low k (List.mem_cons_self ..)
  have hin : ∀ x ∈ A, ∀ g ∈ x.gs, g < w.heap.size ∧ g ∉ k.gs := fun x hx g hg => ⟨x.lt w (h.own x (List.mem_cons_of_mem _ hx)) g hg, fun hk => hap.1 x hx g hk hg⟩
  refine ⟨⟨hf.os.trans h.below.os, hf.tape.trans h.below.tape, hf.output.trans h.below.output, Nat.le_trans h.below.size hf.size, fun i hi => (hf.block i (by omega) (fun hm => by have := hlow i hm; omega)).trans (h.below.block i hi)⟩, h.base, ?_, ?_, ?_⟩
  · intro x hx
    rcases List.mem_cons.1 hx with rfl | hx
    · exact hk
    · exact x.loc w W (fun g hg => hf.block g (hin x hx g hg).1 (hin x hx g hg).2) hf.size (h.own x (List.mem_cons_of_mem _ hx))
  · intro x hx g hgx
    rcases List.mem_cons.1 hx with rfl | hx
    · rcases hg g hgx with h1 | h1
      · exact hlow g h1
      · omega
    · exact h.low x (List.mem_cons_of_mem _ hx) g hgx
  · refine List.pairwise_cons.2 ⟨fun x hx g hgk hgx => ?_, hap.2⟩
    rcases hg g hgk with h1 | h1
    · exact hap.1 x hx g h1 hgx
    · have := (hin x hx g hgx).1; omega
theorem St.ext {B : Nat} {w0 w W : World} {A : List It} (h : St B w0 w A) (hb : Below w.heap.size w W) : St B w0 W A := by
  have hle := h.le
  refine ⟨h.below.trans (hb.mono hle), h.base, fun x hx => ?_, h.low, h.apart⟩
  exact x.loc w W (fun g hg => hb.block g (x.lt w (h.own x hx) g hg)) hb.size (h.own x hx)
theorem St.add {B : Nat} {w0 w W : World} {A : List It} {k : It} (h : St B w0 w A) (hb : Below w.heap.size w W) (hk : k.P W) (hg : ∀ g ∈ k.gs, w.heap.size ≤ g) : St B w0 W (k :: A) := by
  have hle := h.le
  have h2 := h.ext hb
  refine ⟨h2.below, h2.base, fun x hx => ?_, fun x hx g hgx => ?_, List.pairwise_cons.2 ⟨fun x hx g hgk hgx => ?_, h.apart⟩⟩
  · rcases List.mem_cons.1 hx with rfl | hx
    · exact hk
    · exact h2.own x hx
  · rcases List.mem_cons.1 hx with rfl | hx
    · have := hg g hgx; omega
    · exact h.low x hx g hgx
  · have h3 := hg g hgk
    have h4 := x.lt w (h.own x hx) g hgx
    omega
theorem St.sub {B : Nat} {w0 w : World} {A A' : List It} (h : St B w0 w A) (hs : A'.Sublist A) : St B w0 w A' :=
  ⟨h.below, h.base, fun k hk => h.own k (hs.subset hk), fun k hk => h.low k (hs.subset hk), h.apart.sublist hs⟩
theorem St.tail {B : Nat} {w0 w : World} {A : List It} {k : It} (h : St B w0 w (k :: A)) : St B w0 w A := h.sub (List.sublist_cons_self ..)
theorem St.perm {B : Nat} {w0 w : World} {A A' : List It} (h : St B w0 w A) (hp : A.Perm A') : St B w0 w A' :=
  ⟨h.below, h.base, fun k hk => h.own k (hp.mem_iff.2 hk), fun k hk => h.low k (hp.mem_iff.2 hk), h.apart.perm hp (fun hxy g hy hx => hxy g hx hy)⟩
theorem St.swap {B : Nat} {w0 w : World} {A : List It} {x y : It} (h : St B w0 w (x :: y :: A)) : St B w0 w (y :: x :: A) := h.perm (List.Perm.swap ..)
theorem St.rot3 {B : Nat} {w0 w : World} {A : List It} {x y z : It} (h : St B w0 w (x :: y :: z :: A)) : St B w0 w (z :: x :: y :: A) :=
  h.perm (((List.Perm.swap z y A).cons x).trans (List.Perm.swap z x (y :: A)))
theorem St.head {B : Nat} {w0 w : World} {A : List It} {k : It} (h : St B w0 w (k :: A)) : k.P w := h.own k (List.mem_cons_self ..)
theorem St.drew {B : Nat} {w0 w : World} {A : List It} (h : St B w0 w A) : St B w0 w.drew A := h.ext ((Below.refl _ _).drew)
theorem St.drewN {B : Nat} {w0 w : World} {A : List It} (h : St B w0 w A) (n : Nat) : St B w0 (w.drewN n) A := h.ext (below_drewN (Below.refl _ _) n)
/-- A block known whole. -/
def bk (g : Nat) (t : TypeId) (L : List Value) : It where
  gs := [g]
  P w := Blk w g t L
  lt w h x hx := by rw [List.mem_singleton.1 hx]; exact h.lt
  loc w W h _ hp := (h g (List.mem_singleton.2 rfl)).trans hp
theorem St.alloc {B : Nat} {w0 w : World} {A : List It} (h : St B w0 w A) (L : List Value) (t : TypeId) : St B w0 (w.alloc (.cells L.toArray t)) (bk w.heap.size t L :: A) :=
  h.add ((Below.refl _ _).alloc (Nat.le_refl _) _) (Blk.new w L t) (fun g hg => by rw [List.mem_singleton.1 hg]; exact Nat.le_refl _)
theorem St.set {B : Nat} {w0 w : World} {A : List It} {g : Nat} {t : TypeId} {L : List Value} (h : St B w0 w (bk g t L :: A)) (o : Nat) (v : Value) (ho : o < L.length) : St B w0 (w.setCell ⟨g, o, none⟩ v) (bk g t (L.set o v) :: A) := by
  refine h.step (Fr.setCell g o v w (List.mem_singleton.2 rfl)) ?_ (fun x hx => .inl hx)
  show Blk _ g t _
  have hB : Blk w g t L := h.head
  have := heap_setCell_same w g o L.toArray t v hB
  unfold Blk
  rw [this]
  congr 2
  simp
theorem St.sets {B : Nat} {w0 w W : World} {A : List It} {g : Nat} {t : TypeId} {L L' : List Value} (h : St B w0 w (bk g t L :: A)) (hL : Blk W g t L') (ho : Only g w W) : St B w0 W (bk g t L' :: A) :=
  h.step (Fr.of_only ho (List.mem_singleton.2 rfl)) hL (fun x hx => .inl hx)
theorem St.cell {B : Nat} {w0 w : World} {A : List It} {g : Nat} {t : TypeId} {L : List Value} (h : St B w0 w (bk g t L :: A)) (o : Nat) : w.cell? ⟨g, o, none⟩ = L.toArray[o]? := (Blk.box h.head).cell o
theorem St.frozen {B : Nat} {w0 w : World} {A : List It} {g : Nat} {t : TypeId} {L : List Value} (h : St B w0 w (bk g t L :: A)) (o : Nat) : w.frozen? ⟨g, o, none⟩ = false := (Blk.box h.head).frozen o
theorem St.at {B : Nat} {w0 w : World} {A : List It} (h : St B w0 w A) (i : Nat) {g : Nat} {t : TypeId} {L : List Value} (hi : A[i]? = some (bk g t L)) : Blk w g t L := h.own _ (List.mem_of_getElem? hi)
theorem St.ne {B : Nat} {w0 w : World} {A : List It} {x y : It} (h : St B w0 w (x :: y :: A)) : ∀ g ∈ x.gs, g ∉ y.gs := (List.pairwise_cons.1 h.apart).1 y (List.mem_cons_self ..)
theorem Below.left {w0 w : World} {B : Nat} {A : List It} (h : St B w0 w A) : Below B w0 w := h.below
theorem St.dis {B : Nat} {w0 w : World} {A : List It} (h : St B w0 w A) (i j : Nat) (hij : i < j) {x y : It} (hx : A[i]? = some x) (hy : A[j]? = some y) : ∀ g ∈ x.gs, g ∉ y.gs := by
  obtain ⟨hi, rfl⟩ := List.getElem?_eq_some_iff.1 hx
  obtain ⟨hj, rfl⟩ := List.getElem?_eq_some_iff.1 hy
  exact (List.pairwise_iff_getElem.1 h.apart) i j hi hj hij
theorem perm_pull : ∀ (A : List It) (i : Nat) (hi : i < A.length), (A[i] :: A.eraseIdx i).Perm A
  | [], _, h => absurd h (by simp)
  | _ :: _, 0, _ => List.Perm.refl _
  | x :: A, i + 1, h => (List.Perm.swap x (A[i]'(by simpa using h)) (A.eraseIdx i)).trans ((perm_pull A i (by simpa using h)).cons x)
/-- An item is drawn to the front. -/
theorem St.pull {B : Nat} {w0 w : World} {A : List It} (h : St B w0 w A) (i : Nat) {x : It} (hx : A[i]? = some x) : St B w0 w (x :: A.eraseIdx i) := by
  obtain ⟨hi, rfl⟩ := List.getElem?_eq_some_iff.1 hx
  exact h.perm (perm_pull A i hi).symm
theorem St.alloc2 {B : Nat} {w0 w : World} {A : List It} (h : St B w0 w A) (L1 L2 : List Value) (t1 t2 : TypeId) : St B w0 ((w.alloc (.cells L1.toArray t1)).alloc (.cells L2.toArray t2)) (bk (w.heap.size + 1) t2 L2 :: bk w.heap.size t1 L1 :: A) := by
  have := (h.alloc L1 t1).alloc L2 t2
  simpa using this
theorem St.alloc3 {B : Nat} {w0 w : World} {A : List It} (h : St B w0 w A) (L1 L2 L3 : List Value) (t1 t2 t3 : TypeId) : St B w0 (((w.alloc (.cells L1.toArray t1)).alloc (.cells L2.toArray t2)).alloc (.cells L3.toArray t3)) (bk (w.heap.size + 1 + 1) t3 L3 :: bk (w.heap.size + 1) t2 L2 :: bk w.heap.size t1 L1 :: A) := by
  have := (h.alloc2 L1 L2 t1 t2).alloc L3 t3
  simpa using this
theorem St.alloc4 {B : Nat} {w0 w : World} {A : List It} (h : St B w0 w A) (L1 L2 L3 L4 : List Value) (t1 t2 t3 t4 : TypeId) : St B w0 ((((w.alloc (.cells L1.toArray t1)).alloc (.cells L2.toArray t2)).alloc (.cells L3.toArray t3)).alloc (.cells L4.toArray t4)) (bk (w.heap.size + 1 + 1 + 1) t4 L4 :: bk (w.heap.size + 1 + 1) t3 L3 :: bk (w.heap.size + 1) t2 L2 :: bk w.heap.size t1 L1 :: A) := by
  have := (h.alloc3 L1 L2 L3 t1 t2 t3).alloc L4 t4
  simpa using this
/-- One of the rows in a block at a place, by number. -/
theorem St.item {B : Nat} {w0 w : World} {A : List It} (h : St B w0 w A) {k : It} (hk : k ∈ A) : k.P w := h.own k hk
end Go.Proofs.YtjekdodboihfhaaDoor

/- Small lemmas on the model, over any program: '[]byte(s)' over an abstract world; regions whose operations only add to the world. -/
import Derived.Handy
import Derived.Lib.Hide
import Derived.Deep.QuietTactic
import Derived.BigQuiet
import Derived.WalkSpells
import Derived.WalkLawsBesides
import Derived.Laws.DeepStrings4
set_option linter.all false
namespace Go.Proofs.YtjekdodboihfhaaDoor
open Go.RowKit
/-- '[]byte(s)' over an abstract world. -/
theorem conv_bytes {P : Program} (w : World) (src dst e : TypeId) (s : ByteArray) (hs : P.underlying src = some .string) (hd : P.underlying dst = some (.slice e)) (he : P.underlying e = some (.int .u8)) :
    ∃ (cap : Nat) (w1 : World), s.size ≤ cap ∧ (convert src dst (.string s)).run P w = .ok (.slice (some ⟨w.heap.size, 0, none⟩) s.size cap) w1 ∧ Below w.heap.size w w1 ∧ w.heap.size < w1.heap.size ∧
      ∀ (i : Nat) (h : i < s.size), w1.cell? ⟨w.heap.size, i, none⟩ = some (.int .u8 (s[i].toNat : Int)) ∧ w1.frozen? ⟨w.heap.size, i, none⟩ = false := by
  refine ⟨grownCap w s.size 0 e, _, grownCap_ge w s.size 0 e, run_bytes_of_string w src dst e s hs hd he, ?_, ?_, ?_⟩
  · exact ((Below.refl _ w).drew).alloc (Nat.le_refl _) _
  · simp [World.alloc]
  · intro i h
    refine ⟨?_, ?_⟩
    · rw [show (w.heap.size) = w.drew.heap.size from rfl, World.cell?_alloc_mark]
      exact bytesRow_at s _ i h
    · rw [show (w.heap.size) = w.drew.heap.size from rfl, World.frozen?_alloc_mark]
      have : i < (bytesRow s (grownCap w s.size 0 e)).size := by unfold bytesRow; simp; exact Nat.lt_of_lt_of_le h (Nat.le_add_right _ _)
      simp; omega
/-- The same of a string that stands as a list. -/
theorem conv_bytesL {P : Program} (w : World) (src dst e : TypeId) (l : List UInt8) (hs : P.underlying src = some .string) (hd : P.underlying dst = some (.slice e)) (he : P.underlying e = some (.int .u8)) :
    ∃ (cap : Nat) (w1 : World), l.length ≤ cap ∧ (convert src dst (.string ⟨l.toArray⟩)).run P w = .ok (.slice (some ⟨w.heap.size, 0, none⟩) l.length cap) w1 ∧ Below w.heap.size w w1 ∧ w.heap.size < w1.heap.size ∧
      ∀ (i : Nat) (h : i < l.length), w1.cell? ⟨w.heap.size, i, none⟩ = some (.int .u8 (l[i].toNat : Int)) ∧ w1.frozen? ⟨w.heap.size, i, none⟩ = false :=
  conv_bytes w src dst e ⟨l.toArray⟩ hs hd he
/-- 'string([]byte{..})' -/
theorem conv_lit {P : Program} (w : World) (src dst e t : TypeId) (ns : List Int) (cap : Nat) (fr : Nat × Nat) (hs : P.underlying src = some (.slice e)) (he : P.underlying e = some (.int .u8)) (hd : P.underlying dst = some .string) :
    (convert src dst (.slice (some ⟨w.heap.size, 0, none⟩) ns.length cap)).run P (w.alloc (.cells (ns.map (Value.int .u8)).toArray t fr)) =
      .ok (.string ⟨(ns.map (fun n => UInt8.ofNat n.toNat)).toArray⟩) (w.alloc (.cells (ns.map (Value.int .u8)).toArray t fr)) := by
  rw [run_convert_bytes_string _ src dst e _ _ cap hs he hd]
  have hl := run_loadCells_list (P := P) (w.alloc (.cells (ns.map (Value.int .u8)).toArray t fr)) ⟨w.heap.size, 0, none⟩ (ns.map (Value.int .u8)) (fun j v hj => by
    rw [Addr.add_lit, Nat.zero_add, World.cell?_alloc_mark]
    simpa using hj)
  simp only [List.length_map] at hl
  rw [run_bytesToString _ _ _ cap ns hl]
  congr 2
  have : ∀ (ns : List Int) (r : ByteArray), ns.foldl (fun r n => r.push (UInt8.ofNat n.toNat)) r = ⟨r.data ++ (ns.map (fun n => UInt8.ofNat n.toNat)).toArray⟩ := by
    intro ns
    induction ns with
    | nil => intro r; simp
    | cons n ns ih => intro r; simp only [List.foldl_cons]; rw [ih]; simp [ByteArray.push]
  rw [this]
  congr 1
  have h0 : ByteArray.empty.data = #[] := rfl
  rw [h0]
  simp
@[go_sem] theorem ba_append (l m : List UInt8) : (⟨l.toArray⟩ : ByteArray) ++ ⟨m.toArray⟩ = ⟨(l ++ m).toArray⟩ := by
  apply ByteArray.ext
  simp [ByteArray.data_append]
@[go_sem] theorem ba_toList (l : List UInt8) : (⟨l.toArray⟩ : ByteArray).toList = l := by
  rw [ByteArray.toList_eq]
@[go_sem] theorem ba_extract0 (l : List UInt8) (b : Nat) : (⟨l.toArray⟩ : ByteArray).extract 0 b = ⟨(l.take b).toArray⟩ := by
  apply ByteArray.ext
  simp [ByteArray.data_extract]
@[go_sem] theorem ba_extract (l : List UInt8) (a b : Nat) : (⟨l.toArray⟩ : ByteArray).extract a b = ⟨((l.take b).drop a).toArray⟩ := by
  apply ByteArray.ext
  simp [ByteArray.data_extract, List.drop_take]
@[go_sem] theorem ba_size (l : List UInt8) : (⟨l.toArray⟩ : ByteArray).size = l.length := rfl
@[go_sem] theorem ba_get (l : List UInt8) (k : Nat) (h : k < (⟨l.toArray⟩ : ByteArray).size) : (⟨l.toArray⟩ : ByteArray)[k]'h = l[k]'h := rfl
theorem takeL_snoc (l : List UInt8) (k : Nat) (h : k < l.length) : l.take (k + 1) = l.take k ++ [l[k]] := List.take_succ_eq_append_getElem h
theorem take_snoc (s : ByteArray) (k : Nat) (h : k < s.size) : s.data.toList.take (k + 1) = s.data.toList.take k ++ [s[k]] := by
  rw [List.take_succ_eq_append_getElem (by simpa using h)]; rfl
theorem ret_int {k : IntKind} {a b : Int} (h : a = b) : Ending.returned (.int k a) = .returned (.int k b) := by rw [h]
theorem int_eq {k : IntKind} {a b : Int} (h : a = b) : Value.int k a = .int k b := by rw [h]
theorem str_eq {a b : List UInt8} (h : a = b) : Value.string ⟨a.toArray⟩ = .string ⟨b.toArray⟩ := by rw [h]
theorem below_drewN {B : Nat} {a w : World} (h : Below B a w) (n : Nat) : Below B a (w.drewN n) := ⟨h.os, h.tape, h.output, h.size, h.block⟩
/-- A row of bytes from a block's head on, none of them frozen. -/
def BytesAt (w : World) (g : Nat) (L : List UInt8) : Prop := ∀ (i : Nat) (h : i < L.length), w.cell? ⟨g, i, none⟩ = some (.int .u8 (L[i].toNat : Int)) ∧ w.frozen? ⟨g, i, none⟩ = false
theorem BytesAt.set {w : World} {g : Nat} {L : List UInt8} (h : BytesAt w g L) (i : Nat) (b : UInt8) : BytesAt (w.setCell ⟨g, i, none⟩ (.int .u8 (b.toNat : Int))) g (L.set i b) := by
  intro j hj
  have hj' : j < L.length := by simpa using hj
  refine ⟨?_, ?_⟩
  · by_cases e : i = j
    · subst e
      rw [World.cell?_setCell_same _ _ _ (by rw [(h i hj').1])]
      simp
    · rw [World.cell?_setCell_other _ _ _ _ (by intro e'; injection e'; contradiction), (h j hj').1, List.getElem_set_ne e]
  · rw [World.frozen?_setCell]; exact (h j hj').2
theorem BytesAt.drew {w : World} {g : Nat} {L : List UInt8} (h : BytesAt w g L) : BytesAt w.drew g L := h
theorem BytesAt.below {w w' : World} {B g : Nat} {L : List UInt8} (h : BytesAt w g L) (hb : Below B w w') (hg : g < B) : BytesAt w' g L :=
  fun i hi => ⟨(hb.cell (p := ⟨g, i, none⟩) hg).trans (h i hi).1, (hb.frozen (p := ⟨g, i, none⟩) hg).trans (h i hi).2⟩
/-- 'string(b)' of such a row. -/
theorem conv_row {P : Program} {w : World} {g : Nat} {L : List UInt8} (h : BytesAt w g L) (src dst e : TypeId) (cap : Nat) (hs : P.underlying src = some (.slice e)) (he : P.underlying e = some (.int .u8)) (hd : P.underlying dst = some .string) :
    (convert src dst (.slice (some ⟨g, 0, none⟩) L.length cap)).run P w = .ok (.string ⟨L.toArray⟩) w :=
  run_convert_bytes_back w src dst e ⟨g, 0, none⟩ cap L hs he hd (fun j hj => by rw [Addr.add_lit, Nat.zero_add]; exact (h j hj).1)
/-- 'make([]byte, n)'. -/
theorem make_bytes {P : Program} (t e : TypeId) (ht : P.underlying t = some (.slice e)) (hi : (P.info? e).map (fun i => (i.zero, i.size, i.bytes)) = some (some (.int .u8 0), 1, 1))
    (kl kc : IntKind) (n : Nat) (hn : n ≤ 140737488355328) (w : World) :
    ∃ w1, (Instr.makeSlice t (.int kl (n : Int)) (.int kc (n : Int))).run P w = .ok (.slice (some ⟨w.heap.size, 0, none⟩) n n) w1 ∧ Below w.heap.size w w1 ∧ w.heap.size < w1.heap.size ∧ BytesAt w1 w.heap.size (List.replicate n 0) := by
  obtain ⟨i, hi', hz, hsz, hby⟩ := info_parts hi
  have hr := run_make (P := P) w t e i (.int .u8 0) ht hi' hz kl kc (n : Int) (n : Int) (by omega) (by omega) (by rw [hby]; omega) (by omega)
  simp only [Int.toNat_natCast, hsz, Nat.mul_one] at hr
  refine ⟨_, hr, (Below.refl _ w).alloc (Nat.le_refl _) _, by simp, ?_⟩
  intro j hj
  have hj' : j < n := by simpa using hj
  refine ⟨?_, ?_⟩
  · rw [World.cell?_alloc_mark]
    simp [madeCells, hj', Value.cells, Nat.mod_one]
  · rw [World.frozen?_alloc_mark]
    simp
/-- 'min(x, y, z, k)' of lengths. -/
theorem min_nat4 {P : Program} (ts : Array TypeId) (t : TypeId) (x y z k : Nat) (w : World) : (Builtin.min_ ts t #[.int .i64 (x : Int), .int .i64 (y : Int), .int .i64 (z : Int), .int .i64 (k : Int)]).run P w = .ok (.int .i64 ((min (min (min x y) z) k : Nat) : Int)) w := by
  have e : ∀ a b : Nat, (if (b : Int) < (a : Int) then (b : Int) else (a : Int)) = ((min a b : Nat) : Int) := fun a b => by split <;> omega
  simp only [Builtin.min_, List.foldlM_cons, List.foldlM_nil, Builtin.min2, pure_bind, e]
  rfl
theorem byte_xor (x y : UInt8) : bits .xor .u8 (x.toNat : Int) (y.toNat : Int) = ((x ^^^ y).toNat : Int) := by
  rw [u8_xor_nat _ _ x.toNat_lt y.toNat_lt, UInt8.toNat_xor]
/-- A callee that only adds to the world, in a region whose class of worlds is 'what was there stays'. -/
theorem quiet_below {P : Program} {f : FuncId} {args : Array Value} {w W : World} {v : Value} (hW : Below w.heap.size w W) (h : Calls P f args W fun e w' => e = .returned v ∧ Below W.heap.size W w') :
    Calls P f args W fun e w' => e = .returned v ∧ Below w.heap.size w w' :=
  h.mono fun _ _ ⟨he, hb⟩ => ⟨he, hW.trans (hb.mono hW.size)⟩
theorem cell_new (w : World) (C : Array Value) (t : TypeId) (fr : Nat × Nat) (g j : Nat) (hg : g = w.heap.size) : (w.alloc (.cells C t fr)).cell? ⟨g, j, none⟩ = C[j]? := by
  subst hg; exact World.cell?_alloc_mark w C t fr j
theorem frozen_new (w : World) (C : Array Value) (t : TypeId) (g j : Nat) (hg : g = w.heap.size) : (w.alloc (.cells C t (0, 0))).frozen? ⟨g, j, none⟩ = false := by
  subst hg; rw [World.frozen?_alloc_mark]; simp
theorem drop_take_add (s : List UInt8) (a n : Nat) : (s.take (a + n)).drop a = (s.drop a).take n := by
  rw [List.drop_take]; congr 1; omega
/-- 's[a:b]' -/
theorem cut_ab {P : Program} (t : TypeId) (ht : P.underlying t = some .string) (s : List UInt8) (i j : Int) (h0 : 0 ≤ i) (h1 : i ≤ j) (h2 : j ≤ s.length) (w : World) :
    (Instr.slice t (.string ⟨s.toArray⟩) (some (.int .i64 i)) (some (.int .i64 j)) none).run P w = .ok (.string ⟨((s.take j.toNat).drop i.toNat).toArray⟩) w := by
  rw [run_slice_string_if _ _ _ _ _ _ _ ht, if_pos ⟨by omega, h2⟩, if_pos ⟨h0, h1⟩, ba_extract]
/-! ### Regions that draw their order, whose operations and callees only add to the world: the class of worlds 'what was there stays' -/
/-- A world that has been added to. -/
structure Ext (w : World) where
  val : World
  below : Below w.heap.size w val
instance (w : World) : Nonempty (Ext w) := ⟨⟨w, Below.refl _ w⟩⟩
def Ext.drew (w : World) : Ext w := ⟨w.drew, (Below.refl _ w).drew⟩
@[go_sem] theorem Ext.cell {w : World} (x : Ext w) (b o : Nat) (h : b < w.heap.size) : x.val.cell? ⟨b, o, none⟩ = w.cell? ⟨b, o, none⟩ := x.below.cell (p := ⟨b, o, none⟩) h
@[go_sem] theorem Ext.frozen {w : World} (x : Ext w) (b o : Nat) (h : b < w.heap.size) : x.val.frozen? ⟨b, o, none⟩ = w.frozen? ⟨b, o, none⟩ := x.below.frozen (p := ⟨b, o, none⟩) h
theorem wp_region_ext {P : Program} {id : Nat} {Q : Exit → Act → World → Prop} {a : Act} {w : World} {l : List Oper} (hm : P.follows .mixedOrders = true) (hB : Region.lexB .any l.toArray = true)
    (h : wpQuiet P l.toArray (fun w' => ∃ x : Ext w, w' = x.val) (fun a' => ∀ w', (∃ x : Ext w, w' = x.val) → Q .normal a' w') l a) : (Code.region id l.toArray true).wp P Q a w :=
  wp_region_quiet (C := fun w' => ∃ x : Ext w, w' = x.val) hm hB ⟨Ext.drew w, rfl⟩ (by simpa using h)
theorem Calls.ext {P : Program} {f : FuncId} {args : Array Value} {w : World} {v : Value} (x : Ext w) (h : Calls P f args x.val fun e w' => e = .returned v ∧ Below x.val.heap.size x.val w') :
    Calls P f args x.val fun e w'' => e = .returned v ∧ ∃ y : Ext w, w'' = y.val :=
  h.mono fun _ w' ⟨he, hb⟩ => ⟨he, ⟨w', x.below.trans (hb.mono x.below.size)⟩, rfl⟩
theorem Calls.ext_same {P : Program} {f : FuncId} {args : Array Value} {w : World} {v : Value} (x : Ext w) (h : Calls P f args x.val fun e w' => e = .returned v ∧ x.val = w') :
    Calls P f args x.val fun e w'' => e = .returned v ∧ ∃ y : Ext w, w'' = y.val :=
  h.mono fun _ _ ⟨he, hw⟩ => ⟨he, x, hw.symm⟩
/-- The cells of a block of one's own, later. -/
theorem cells_later {w w1 : World} {C : Array Value} {t : TypeId} (hb : Below (w.alloc (.cells C t)).heap.size (w.alloc (.cells C t)) w1) (j : Nat) : w1.cell? ⟨w.heap.size, j, none⟩ = C[j]? := by
  rw [hb.cell (p := ⟨w.heap.size, j, none⟩) (by simp), World.cell?_alloc_mark]
/-- The first cells of a block, none of them frozen. -/
def CellsAt (w : World) (B : Nat) (C : List Value) : Prop := ∀ (j : Nat) (h : j < C.length), w.cell? ⟨B, j, none⟩ = some C[j] ∧ w.frozen? ⟨B, j, none⟩ = false
theorem CellsAt.set {w : World} {B : Nat} {C : List Value} (h : CellsAt w B C) (i : Nat) (v : Value) : CellsAt (w.setCell ⟨B, i, none⟩ v) B (C.set i v) := by
  intro j hj
  have hj' : j < C.length := by simpa using hj
  refine ⟨?_, ?_⟩
  · by_cases e : i = j
    · subst e
      rw [World.cell?_setCell_same _ _ _ (by rw [(h i hj').1])]
      simp
    · rw [World.cell?_setCell_other _ _ _ _ (by intro e'; injection e'; contradiction), (h j hj').1, List.getElem_set_ne e]
  · rw [World.frozen?_setCell]; exact (h j hj').2
theorem CellsAt.drew {w : World} {B : Nat} {C : List Value} (h : CellsAt w B C) : CellsAt w.drew B C := h
theorem CellsAt.below {w w' : World} {n B : Nat} {C : List Value} (h : CellsAt w B C) (hb : Below n w w') (hB : B < n) : CellsAt w' B C :=
  fun i hi => ⟨(hb.cell (p := ⟨B, i, none⟩) hB).trans (h i hi).1, (hb.frozen (p := ⟨B, i, none⟩) hB).trans (h i hi).2⟩
theorem CellsAt.new {w : World} (C : List Value) (t : TypeId) : CellsAt (w.alloc (.cells C.toArray t)) w.heap.size C := by
  intro j hj
  refine ⟨?_, ?_⟩
  · rw [World.cell?_alloc_mark]; simp [hj]
  · rw [World.frozen?_alloc_mark]; simp
end Go.Proofs.YtjekdodboihfhaaDoor

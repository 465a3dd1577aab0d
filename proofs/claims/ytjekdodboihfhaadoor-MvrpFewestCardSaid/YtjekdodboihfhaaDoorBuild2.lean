/- '[]T{x}' of one value. -/
import Derived.Test.YtjekdodboihfhaaDoorBuild1
set_option linter.all false
namespace Go.Proofs.YtjekdodboihfhaaDoor
open Go.RowKit
theorem run_buildSlice1v {P : Program} {t e : TypeId} {size bytes : Nat} (E : ElemOk P t e size bytes) (v : Value) (L : List Value) (hv : v.cells = L.toArray) (hl : L.length = size) (hs : size ≤ 16777216) (w : World) :
    (Instr.buildSlice t 1 #[(0, v)]).run P w = .ok (.slice (some ⟨w.heap.size, 0, none⟩) 1 1) (w.alloc (.cells L.toArray e)) := by
  obtain ⟨ht, i, z, hi, hz, hsz, hby, hzs, hpos⟩ := E
  have hzv : ∀ w, (zeroValue e).run P w = .ok z w := (zero_of_info (n := size) (by rw [hi]; simp [hz, hsz])).1
  have hso : (sizeOf e).run P w = .ok size w := by simp [sizeOf, typeInfo, hi, hsz]
  unfold Instr.buildSlice
  have h1 : ¬ (1 * size > 2 ^ 24) := by omega
  have h2 : ¬ (1 * size = 0) := by omega
  have hfill : Instr.fill (fun i => some (i * size, size)) ((Array.range (1 * size)).map (fun j => z.cells[j % z.cells.size]!)) [(0, v)] = some L.toArray := by
    have hA : ((Array.range (1 * size)).map (fun j => z.cells[j % z.cells.size]!)).size = L.length := by simp [hl]
    generalize (Array.range (1 * size)).map (fun j => z.cells[j % z.cells.size]!) = A at *
    have hc : v.cells = L.toArray := hv
    simp only [Instr.fill, hc]
    have hz0 : 0 * size = 0 := Nat.zero_mul _
    have hcond : (decide (L.toArray.size ≠ size) || decide (0 * size + L.toArray.size > A.size)) = false := by
      rw [hz0]; simp [hl, hA]
    have hif : ∀ (x y : Option (Array Value)), (if (decide (L.toArray.size ≠ size) || decide (0 * size + L.toArray.size > A.size)) = true then x else y) = y := fun x y => by rw [hcond]; rfl
    rw [hif, hz0]
    have := foldl_set L 0 A (by omega)
    rw [← Array.foldl_toList]
    rw [show L.toArray.zipIdx.toList = L.zipIdx 0 by simp]
    rw [this]
    have hd : A.toList.drop (0 + L.length) = [] := List.drop_of_length_le (by simp; omega)
    rw [hd]
    simp
  simp only [Sem.run_bind, run_underlying ht, Result.andThen_ok, hso, if_neg h1, if_neg h2, hzv, Sem.run_pure, hfill]
  rfl
theorem wpList_build1v {P : Program} {ops : Array Oper} {rest : List Oper} {d p : Tmp} {t t' : TypeId} {pos : String} {after : Array Edge} {a : Act} {w : World} {Q : Exit → Act → World → Prop} {e : TypeId} {size bytes : Nat} (L : List Value)
    (E : ElemOk P t e size bytes) (hx : (a.eval (.tmp p)).cells = L.toArray) (hl : L.length = size) (hs : size ≤ 16777216)
    (h : ∀ W, Blk W w.heap.size e L → Below w.heap.size w W → w.heap.size < W.heap.size → wpList P ops Q rest (a.put (some d) (.slice (some ⟨w.heap.size, 0, none⟩) 1 1)) W) :
    wpList P ops Q (⟨some d, .buildSlice t 1 #[(0, .tmp p)], t', pos, after, none⟩ :: rest) a w := by
  refine wpList_plain rfl fun _ hK => ?_
  unfold Oper.wp execOp
  have hr := run_buildSlice1v E _ L hx hl hs w
  simp only [List.map_toArray, List.map_cons, List.map_nil, Sem.run_bind, Sem.run_map, hr]
  exact hK _ _ (h _ (Blk.new w L e) ((Below.refl _ w).alloc (Nat.le_refl _) _) (by simp))
theorem two_blks (w : World) (C D : List Value) (t u : TypeId) : ∀ W, W = (w.alloc (.cells C.toArray t)).alloc (.cells D.toArray u) →
    Blk W w.heap.size t C ∧ Blk W (w.heap.size + 1) u D ∧ Below w.heap.size w W ∧ w.heap.size + 1 < W.heap.size := by
  rintro W rfl
  have hs : (w.alloc (.cells C.toArray t)).heap.size = w.heap.size + 1 := by simp
  refine ⟨(Blk.new w C t).below ((Below.refl _ _).alloc (Nat.le_refl _) _) (by rw [hs]; exact Nat.lt_succ_self _), ?_, ((Below.refl _ w).alloc (Nat.le_refl _) _).alloc (by simp) _, by simp⟩
  rw [← hs]; exact Blk.new _ D u
end Go.Proofs.YtjekdodboihfhaaDoor

/- The variables of the library's own that the calls read; strings.Cut, strconv.Atoi, strconv.Itoa in plain words. -/
import Derived.Test.YtkicbabfgahmkaaDoorMaxL
import Derived.Test.YtkicbabfgahmkaaDoorPrM
import Derived.Lib.AppendIntMem
import Derived.Lib.AtoiErrMem
set_option linter.all false
namespace Go.Proofs.YtkicbabfgahmkaaDoor
open Go.RowKit
def ErrV (g : Nat) (w : World) : Prop := ∃ ev, w.cell? ⟨g, 0, none⟩ = some ev ∧ (ev = .nilIface ∨ ∃ te pe, ev = .iface te pe)
structure Vars (w : World) : Prop where
  m : MaxL w
  s : ErrV 1 w
  r : ErrV 2 w
  t : Lib.TabIs Tryd.prog w "internal/strconv.uint64pow10" .u64 Lib.pow10Tab
theorem ErrV.ext {g : Nat} {w W : World} (h : ErrV g w) (hb : Below w.heap.size w W) : ErrV g W := by
  obtain ⟨ev, h1, h2⟩ := h
  exact ⟨ev, laterc h1 hb (World.block_lt_of_cell? w _ h1), h2⟩
theorem tab_ext {w W : World} {name : String} {k : IntKind} {zs : List Int} (h : Lib.TabIs Tryd.prog w name k zs) (hb : Below w.heap.size w W) : Lib.TabIs Tryd.prog W name k zs := by
  unfold Lib.TabIs at h ⊢
  rw [← h]
  unfold World.var? at h ⊢
  cases hg : Tryd.prog.globalNamed name with
  | none => rfl
  | some g =>
    rw [hg] at h
    simp only [Option.bind_some] at h ⊢
    have hlt : g < w.heap.size := by
      rcases Nat.lt_or_ge g w.heap.size with h' | h'
      · exact h'
      · simp [Array.getElem?_eq_none h'] at h
    rw [hb.block g hlt]
theorem Vars.ext {w W : World} (h : Vars w) (hb : Below w.heap.size w W) : Vars W := ⟨h.m.ext hb, h.s.ext hb, h.r.ext hb, tab_ext h.t hb⟩
theorem cut_v (s : List UInt8) (c : UInt8) (hs : s.length ≤ 1000000) (w : World) (hm : MaxL w) :
    Calls Tryd.prog 49 #[.string ⟨s.toArray⟩, .string ⟨#[c]⟩] w fun e w' => e = .returned (.tuple #[.string ⟨(Lib.cut s [c]).1.toArray⟩, .string ⟨(Lib.cut s [c]).2.1.toArray⟩, .bool (Lib.cut s [c]).2.2]) ∧ Below w.heap.size w w' := by
  obtain ⟨m, hm⟩ := hm
  refine (Tryd.strings_Cut ⟨s.toArray⟩ ⟨#[c]⟩ m w (by show s.toArray.size < _; simp; omega) hm).mono ?_
  rintro e w' ⟨rfl, n, rfl⟩
  exact ⟨rfl, below_drewN (Below.refl _ _) n⟩
theorem itoa_v (n : Nat) (hn : n < 1000000000) (w : World) (ht : Lib.TabIs Tryd.prog w "internal/strconv.uint64pow10" .u64 Lib.pow10Tab) :
    Calls Tryd.prog 48 #[.int .i64 (n : Int)] w fun e w' => e = .returned (.string ⟨(Lib.decDigits n).toArray⟩) ∧ Below w.heap.size w w' := by
  refine (Tryd.strconv_Itoa (n : Int) (by omega) (by omega) w ht).mono ?_
  rintro e w' ⟨rfl, k, os, rfl⟩
  rw [Lib.itoa_nonneg]
  exact ⟨rfl, Lib.below_grow _ w (Nat.le_refl _) k os⟩
theorem atoi_ok (s : List UInt8) (hs : s.length ≤ 1000000) (v : Int) (h : Lib.atoiAll s = .ok v) (w : World) :
    Calls Tryd.prog 50 #[.string ⟨s.toArray⟩] w fun e w' => e = .returned (.tuple #[.int .i64 v, .nilIface]) ∧ Below w.heap.size w w' := by
  refine (Tryd.strconv_Atoi_ok ⟨s.toArray⟩ (by show s.toArray.size ≤ _; simp; omega) v h w).mono ?_
  rintro e w' ⟨rfl, rfl | ⟨t, rfl⟩⟩
  · exact ⟨rfl, Below.refl _ _⟩
  · exact ⟨rfl, Lib.bytesWorld_below _ _ _⟩
theorem atoi_bad (s : List UInt8) (hs : s.length ≤ 1000000) (h : ∀ v, Lib.atoiAll s ≠ .ok v) (w : World) (h1 : ErrV 1 w) (h2 : ErrV 2 w) :
    Calls Tryd.prog 50 #[.string ⟨s.toArray⟩] w fun e w' => ∃ (n : Int) (N : Nat), e = .returned (.tuple #[.int .i64 n, .iface 118 (.pointer (some ⟨N, 0, none⟩))]) ∧ Below w.heap.size w w' := by
  have hl : (⟨s.toArray⟩ : ByteArray).size ≤ 281474976710656 := by show s.toArray.size ≤ _; simp; omega
  cases hk : Lib.atoiAll s with
  | ok v => exact absurd hk (h v)
  | range =>
    obtain ⟨ev, c, k⟩ := h2
    refine (Tryd.strconv_Atoi_range ⟨s.toArray⟩ hl hk ev w c k).mono ?_
    rintro e w' ⟨N, rfl, _, _, hb⟩
    exact ⟨_, _, rfl, hb⟩
  | _ =>
    obtain ⟨ev, c, k⟩ := h1
    refine (Any.strconv_Atoi_syntax Tryd.laysC172 ⟨s.toArray⟩ hl hk ev w c k).mono ?_
    rintro e w' ⟨N, rfl, _, _, hb⟩
    exact ⟨_, _, rfl, hb⟩
end Go.Proofs.YtkicbabfgahmkaaDoor
